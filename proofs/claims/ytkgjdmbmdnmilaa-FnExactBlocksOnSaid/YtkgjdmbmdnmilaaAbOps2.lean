/- More operations of the model in abstract terms. No statement of the seat is proved here; it holds for every program. -/
import Derived.Test.YtkgjdmbmdnmilaaAbOps
set_option linter.all false
namespace Go.Ab
open Go.RowKit (Below)

section
variable {P : Program} {N : Nat} {o : Oper} {fr : Fr} {H : Heap} {K : Fr → Heap → Prop}

theorem ok_store {t : TypeId} {x y : Operand} (ho : o.op = .store t x y) {τ : TI} (ht : ti P t = some τ) {i off : Nat} (hx : ev fr x = some (.pointer (some ⟨i, off, none⟩))) {v : Value} (hy : ev fr y = some v)
    (hsz : v.cells.size = τ.size) {H' : Heap} (hst : storeAt H i off v.cells.toList = some H') (hd : dstOK N o.dst) (hk : K (fr.put o.dst undef) H') : OpOK P N o fr H K :=
  opOK_skip fun B w0 ρ w a hR hF => by
    obtain ⟨ii, hu, hi, hs, hb, hz, hzs⟩ := ti_inv ht
    obtain ⟨l, hl, he⟩ := (hF.ev hx).ptr_inv
    have hv := hF.ev hy
    obtain ⟨w', hrun, hR'⟩ := hR.storeVar (P := P) hv hst hl
    have hcs : (a.eval y).cells.size = τ.size := by
      have := hv.cells.1
      simp at this
      omega
    refine ⟨w', ρ, H', ?_, List.prefix_refl _, hR', hd, hk⟩
    simp [execOp, ho, Instr.storeAt, Instr.sureAddr, he, storeVar, sizeOf, typeInfo, hi, hs, hcs, hrun]

theorem ok_nilCheck {x : Operand} (ho : o.op = .nilCheck x) {i off : Nat} (hx : ev fr x = some (.pointer (some ⟨i, off, none⟩))) (hd : dstOK N o.dst)
    (hk : K (fr.put o.dst (.pointer (some ⟨i, off, none⟩))) H) : OpOK P N o fr H K :=
  opOK_same fun ρ w a hF => by
    have hv := hF.ev hx
    obtain ⟨l, hl, he⟩ := hv.ptr_inv
    exact ⟨a.eval x, _, by simp [execOp, ho, he], hv, hd, hk⟩

theorem ok_nilCheckF {x : Operand} (ho : o.op = .nilCheck x) {g : FuncId} {as bs : Array Value} (hx : ev fr x = some (.func (.func g) as bs)) (hd : dstOK N o.dst)
    (hk : K (fr.put o.dst (.func (.func g) as bs)) H) : OpOK P N o fr H K :=
  opOK_same fun ρ w a hF => by
    have hv := hF.ev hx
    obtain ⟨as', bs', he, _, _⟩ := hv.func_inv
    exact ⟨a.eval x, _, by simp [execOp, ho, he], hv, hd, hk⟩

/-! Words that simp opens from the outside in: what stands behind them is not looked at before they are gone. -/

def bindO {α : Type} (o : Option α) (K : α → Prop) : Prop := ∃ v, o = some v ∧ K v
theorem bindO_some {α : Type} (v : α) (K : α → Prop) : bindO (some v) K = K v := by simp [bindO]
theorem bindO_intro {α : Type} {o : Option α} {K : α → Prop} {v : α} (h : o = some v) (hk : K v) : bindO o K := ⟨v, h, hk⟩
@[congr] theorem bindO_congr {α : Type} {o o' : Option α} {K : α → Prop} (h : o = o') : bindO o K = bindO o' K := by rw [h]

def andK (p : Prop) (k : Prop) : Prop := p ∧ k
theorem andK_true (k : Prop) : andK True k = k := by simp [andK]
theorem andK_intro {p k : Prop} (h : p) (hk : k) : andK p k := ⟨h, hk⟩
@[congr] theorem andK_congr {p p' k : Prop} (h : p = p') : andK p k = andK p' k := by rw [h]

@[congr] theorem ACalls_congr {P : Program} {f : FuncId} {args args' : List Value} {H : Heap} {Post : Value → Heap → Prop} (h : args = args') : ACalls P f args H Post = ACalls P f args' H Post := by rw [h]

def condK (b : Bool) (k1 k2 : Prop) : Prop := (b = true → k1) ∧ (b = false → k2)
theorem condK_true (k1 k2 : Prop) : condK true k1 k2 = k1 := by simp [condK]
theorem condK_false (k1 k2 : Prop) : condK false k1 k2 = k2 := by simp [condK]
theorem condK_intro {b : Bool} {k1 k2 : Prop} (h1 : b = true → k1) (h2 : b = false → k2) : condK b k1 k2 := ⟨h1, h2⟩
@[congr] theorem condK_congr {b b' : Bool} {k1 k2 : Prop} (h : b = b') : condK b k1 k2 = condK b' k1 k2 := by rw [h]

/-- Integers, by the operator. -/
def vint (op : BinOp) (k : IntKind) (a b : Int) (K : Value → Prop) : Prop :=
  match op with
  | .add => K (.int k (k.wrap (a + b)))
  | .sub => K (.int k (k.wrap (a - b)))
  | .mul => K (.int k (k.wrap (a * b)))
  | .quo => andK (b ≠ 0) <| K (.int k (k.wrap (a.tdiv b)))
  | .rem => andK (b ≠ 0) <| K (.int k (a.tmod b))
  | .and => K (.int k (k.wrap (BitVec.ofInt k.bits a &&& BitVec.ofInt k.bits b).toNat))
  | .or => K (.int k (k.wrap (BitVec.ofInt k.bits a ||| BitVec.ofInt k.bits b).toNat))
  | .xor => K (.int k (k.wrap (BitVec.ofInt k.bits a ^^^ BitVec.ofInt k.bits b).toNat))
  | .andNot => K (.int k (k.wrap (BitVec.ofInt k.bits a &&& ~~~(BitVec.ofInt k.bits b)).toNat))
  | .eql => K (.bool (a == b))
  | .neq => K (.bool (a != b))
  | .lss => K (.bool (decide (a < b)))
  | .leq => K (.bool (decide (a ≤ b)))
  | .gtr => K (.bool (decide (b < a)))
  | .geq => K (.bool (decide (b ≤ a)))
  | .shl => andK (0 ≤ b) <| K (.int k (k.wrap (a * 2 ^ (min b.toNat k.bits))))
  | .shr => andK (0 ≤ b) <| K (.int k (a.fdiv (2 ^ (min b.toNat k.bits))))

def vstr (op : BinOp) (a b : ByteArray) (K : Value → Prop) : Prop :=
  match op with
  | .add => andK (((a.size + b.size : Nat) : Int) ≤ 9223372036854775807) <| K (.string (a ++ b))
  | .eql => K (.bool (a.toList == b.toList))
  | .neq => K (.bool (!(a.toList == b.toList)))
  | .lss => K (.bool (Op.bytesLess a.toList b.toList))
  | _ => False

/-- The integers of some cells. -/
def intsOf (k : IntKind) : List Value → Option (List Int)
  | [] => some []
  | .int k' n :: vs => if k = k' then (intsOf k vs).map (n :: ·) else none
  | _ :: _ => none

theorem intsOf_inv {k : IntKind} : ∀ {vs : List Value} {ns : List Int}, intsOf k vs = some ns → vs = ns.map (.int k)
  | [], ns, h => by simp [intsOf] at h; subst h; rfl
  | v :: vs, ns, h => by
    cases v with
    | int k' n =>
      simp only [intsOf] at h
      split at h
      · rename_i e; subst e
        cases hs : intsOf k vs with
        | none => simp [hs] at h
        | some ms => simp [hs] at h; subst h; rw [intsOf_inv hs]; rfl
      · cases h
    | _ => simp [intsOf] at h

theorem intsOf_map (k : IntKind) (ns : List Int) : intsOf k (ns.map (.int k)) = some ns := by
  induction ns with
  | nil => rfl
  | cons n ns ih => simp [intsOf, ih]

def opShift : BinOp → Bool
  | .shl | .shr => true
  | _ => false

/-- Two values, by the operator. -/
def vbin (P : Program) (op : BinOp) (ty : TypeId) (x y : Value) (K : Value → Prop) : Prop :=
  match x, y with
  | .int k a, .int k' b => andK (k = k' ∨ opShift op = true) <| vint op k a b K
  | .string a, .string b => vstr op a b K
  | .bool a, .bool b => andK (P.underlying ty = some .bool) <| match op with
    | .eql => K (.bool (a == b))
    | .neq => K (.bool (!(a == b)))
    | _ => False
  | .agg xs, .agg ys => bindO (P.underlying ty) fun d => match d with
    | .array n te => bindO (P.underlying te) fun de => match de with
      | .int k => andK ((P.info? te).map (·.size) = some 1) <| bindO (intsOf k xs.toList) fun as => bindO (intsOf k ys.toList) fun bs => andK (as.length = n ∧ as.length = bs.length) <| match op with
        | .eql => K (.bool (decide (as = bs)))
        | .neq => K (.bool (!decide (as = bs)))
        | _ => False
      | _ => False
    | _ => False
  | _, _ => False

theorem run_intArith_cmp (w : World) (op : BinOp) (ty : TypeId) (k k' : IntKind) (a b : Int) (hk : k = k' ∨ opShift op = true) (Kv : Value → Prop) (h : vint op k a b Kv) :
    ∃ v, (binOp op ty (.int k a) (.int k' b)).run P w = .ok v w ∧ Kv v ∧ closed0 v = true := by
  cases op
  case shl => obtain ⟨h0, h⟩ := h; exact ⟨_, by simp [binOp, Op.shift, show ¬ b < 0 by omega], h, rfl⟩
  case shr => obtain ⟨h0, h⟩ := h; exact ⟨_, by simp [binOp, Op.shift, show ¬ b < 0 by omega], h, rfl⟩
  case quo => obtain rfl : k = k' := by simpa [opShift] using hk
              obtain ⟨h0, h⟩ := h; exact ⟨_, by simp [binOp, Op.intDiv, h0], h, rfl⟩
  case rem => obtain rfl : k = k' := by simpa [opShift] using hk
              obtain ⟨h0, h⟩ := h; exact ⟨_, by simp [binOp, Op.intDiv, h0], h, rfl⟩
  all_goals
    obtain rfl : k = k' := by simpa [opShift] using hk
    exact ⟨_, by simp [binOp, Op.intArith, Op.intBits, Op.intCmp], h, rfl⟩

def plainV : Value → Bool
  | .nilIface | .agg _ => false
  | _ => true

theorem run_eqGuard_plain (w : World) (op : BinOp) (ty : TypeId) (x y : Operand) (a b : Value) (ha : plainV a = true) : (eqGuard op ty x y a b).run P w = .ok () w := by
  unfold eqGuard
  cases op
  case eql => cases a <;> first | (simp [plainV] at ha; done) | (cases b <;> rfl)
  case neq => cases a <;> first | (simp [plainV] at ha; done) | (cases b <;> rfl)
  all_goals rfl

theorem run_eqGuard_ints (w : World) (op : BinOp) (ty te : TypeId) (k : IntKind) (n : Nat) (x y : Operand) (as bs : Array Value) (hu : P.underlying ty = some (.array n te)) (hue : P.underlying te = some (.int k)) :
    (eqGuard op ty x y (.agg as) (.agg bs)).run P w = .ok () w := by
  have hd : P.eqGuardType P.depth ty = false := by
    unfold Program.depth
    simp [Program.eqGuardType, hu, hue]
  unfold eqGuard
  cases op
  case eql => simp [hd]
  case neq => simp [hd]
  all_goals rfl

theorem run_part_one {te : TypeId} {k : IntKind} (hu : P.underlying te = some (.int k)) (w : World) (cs : Array Value) (i : Nat) {v : Value} (h : cs[i]? = some v) : (part te cs i).run P w = .ok v w := by
  unfold part
  rw [Sem.run_bind, run_isAgg hu w]
  simp [aggT, h]

theorem run_forIn_search (w : World) (c : Nat → Bool) (f : Nat → Option Bool × Unit → Sem (ForInStep (Option Bool × Unit))) :
    ∀ (n st : Nat), (∀ i s, st ≤ i → i < st + n → (f i s).run P w = .ok (if c i then .yield (none, ()) else .done (some false, ())) w) →
      (forIn (List.range' st n) ((none, ()) : Option Bool × Unit) f).run P w = .ok (if (List.range' st n).all c then (none, ()) else (some false, ())) w
  | 0, st, _ => by simp
  | n + 1, st, hf => by
    have ih := run_forIn_search w c f n (st + 1) (fun i s h1 h2 => hf i s (by omega) (by omega))
    rw [List.range'_succ, List.forIn_cons, Sem.run_bind, hf st _ (by omega) (by omega)]
    by_cases h : c st = true
    · simp only [h, if_true, Result.andThen_ok, List.all_cons, Bool.true_and]; exact ih
    · simp [h]

theorem all_range_get (as bs : List Int) (hl : as.length = bs.length) : (List.range' 0 as.length).all (fun i => as.getD i 0 == bs.getD i 0) = decide (as = bs) := by
  by_cases h : as = bs
  · subst h; simp
  · simp only [h, decide_false]
    rw [Bool.eq_false_iff]
    intro hc
    apply h
    rw [List.all_eq_true] at hc
    apply List.ext_getElem hl
    intro i h1 h2
    have := hc i (by simp [List.mem_range']; omega)
    simpa [List.getD_eq_getElem?_getD, h1, h2] using this

theorem run_equalIn_ints (w : World) (ty te : TypeId) (k : IntKind) (as bs : List Int) (hu : P.underlying ty = some (.array as.length te)) (hue : P.underlying te = some (.int k)) (hs : (P.info? te).map (·.size) = some 1)
    (hl : as.length = bs.length) (d : Nat) : (Op.equalIn (d + 2) ty (.agg (as.map (Value.int k)).toArray) (.agg (bs.map (Value.int k)).toArray)).run P w = .ok (decide (as = bs)) w := by
  have hsz : (sizeOf te).run P w = .ok 1 w := by
    cases hi : P.info? te with
    | none => simp [hi] at hs
    | some i => simp [hi] at hs; simp [sizeOf, typeInfo, hi, hs]
  rw [Op.equalIn]
  simp only [Sem.run_bind, run_underlying hu, Result.andThen_ok, hsz, Std.Legacy.Range.forIn_eq_forIn_range', Std.Legacy.Range.size, Nat.sub_zero, Nat.add_sub_cancel, Nat.div_one]
  rw [run_forIn_search w (fun i => as.getD i 0 == bs.getD i 0)]
  · rw [all_range_get as bs hl]
    by_cases h : as = bs
    · simp [h]
    · simp [h]
  · intro i s h1 h2
    have h3 : i < as.length := by omega
    have h4 : i < bs.length := by omega
    have ha : ((as.map (Value.int k)).toArray)[i * 1]? = some (.int k as[i]) := by simp [h3]
    have hb : ((bs.map (Value.int k)).toArray)[i * 1]? = some (.int k bs[i]) := by simp [h4]
    simp only [Sem.run_bind, run_part_one hue w _ _ ha, run_part_one hue w _ _ hb, Result.andThen_ok, run_equalIn_int w d te k k as[i] bs[i] hue]
    have e1 : as.getD i 0 = as[i] := by simp [List.getD_eq_getElem?_getD, h3]
    have e2 : bs.getD i 0 = bs[i] := by simp [List.getD_eq_getElem?_getD, h4]
    rw [e1, e2]
    by_cases e : as[i] = bs[i] <;> simp [e]

theorem ok_bin {op : BinOp} {ty ty' : TypeId} {x y : Operand} (ho : o.op = .binOp op ty x y ty') {vx vy : Value} (hx : ev fr x = some vx) (hy : ev fr y = some vy) (hd : dstOK N o.dst)
    (hk : vbin P op ty vx vy (fun v => K (fr.put o.dst v) H)) : OpOK P N o fr H K :=
  opOK_same fun ρ w a hF => by
    have rx := hF.ev hx
    have ry := hF.ev hy
    cases vx with
    | int k n =>
      cases vy with
      | int k' m =>
        obtain ⟨hkk, hv⟩ := hk
        obtain ⟨v, hr, hkv, hc⟩ := run_intArith_cmp (P := P) w op ty k k' n m hkk _ hv
        refine ⟨v, v, ?_, VR.closed0 hc, hd, hkv⟩
        have hg := run_eqGuard_plain (P := P) w op ty x y (.int k n) (.int k' m) rfl
        simp [execOp, ho, rx.int_inv, ry.int_inv, hg, hr]
      | _ => simp [vbin] at hk
    | string s =>
      cases vy with
      | string u =>
        have hk' : vstr op s u (fun v => K (fr.put o.dst v) H) := hk
        have hg := run_eqGuard_plain (P := P) w op ty x y (.string s) (.string u) rfl
        cases op
        case add =>
          obtain ⟨h1, h2⟩ := hk'
          refine ⟨_, _, ?_, .string _, hd, h2⟩
          have e : IntKind.max .i64 = 9223372036854775807 := by decide
          have h3 : ¬ ((s.size : Int) + (u.size : Int) > 9223372036854775807) := by push_cast at h1; omega
          simp [execOp, ho, rx.string_inv, ry.string_inv, hg, binOp, Op.stringOp, e, h3]
        case eql => exact ⟨_, _, by simp [execOp, ho, rx.string_inv, ry.string_inv, hg, binOp, Op.stringOp], .bool _, hd, hk'⟩
        case neq => exact ⟨_, _, by simp [execOp, ho, rx.string_inv, ry.string_inv, hg, binOp, Op.stringOp], .bool _, hd, hk'⟩
        case lss => exact ⟨_, _, by simp [execOp, ho, rx.string_inv, ry.string_inv, hg, binOp, Op.stringOp], .bool _, hd, hk'⟩
        all_goals exact hk'.elim
      | _ => simp [vbin] at hk
    | bool b =>
      cases vy with
      | bool c =>
        obtain ⟨hu, hk⟩ := hk
        have hg := run_eqGuard_plain (P := P) w op ty x y (.bool b) (.bool c) rfl
        have he : (Op.equal ty (.bool b) (.bool c)).run P w = .ok (b == c) w := run_equalIn_bool w 9999 ty b c hu
        split at hk
        · exact ⟨_, _, by simp [execOp, ho, rx.bool_inv, ry.bool_inv, hg, binOp, he], .bool _, hd, hk⟩
        · exact ⟨_, _, by simp [execOp, ho, rx.bool_inv, ry.bool_inv, hg, binOp, he], .bool _, hd, hk⟩
        · exact hk.elim
      | _ => simp [vbin] at hk
    | agg xs =>
      cases vy with
      | agg ys =>
        obtain ⟨d, hu, hk⟩ := hk
        cases d <;> try exact hk.elim
        rename_i n te
        obtain ⟨de, hue, hk⟩ := hk
        cases de <;> try exact hk.elim
        rename_i k
        obtain ⟨hs, as, h1, bs, h2, ⟨rfl, h3⟩, hk⟩ := hk
        obtain ⟨xs', ex, rxs⟩ := rx.agg_inv
        obtain ⟨ys', ey, rys⟩ := ry.agg_inv
        have same : ∀ (as : List Int) (xs xs' : List Value), xs = as.map (Value.int k) → VRs ρ xs xs' → xs' = as.map (Value.int k) := by
          intro as
          induction as with
          | nil => intro xs xs' e h; subst e; exact h.nil_inv
          | cons n as ih =>
            intro xs xs' e h
            subst e
            obtain ⟨u, us, rfl, hu1, hu2⟩ := h.cons_inv
            rw [hu1.int_inv, ih _ _ rfl hu2]; rfl
        have e1 : xs' = (as.map (Value.int k)).toArray := by apply Array.ext'; simpa using same as _ _ (intsOf_inv h1) rxs
        have e2 : ys' = (bs.map (Value.int k)).toArray := by apply Array.ext'; simpa using same bs _ _ (intsOf_inv h2) rys
        subst e1
        subst e2
        have hg := run_eqGuard_ints (P := P) w op ty te k as.length x y (as.map (Value.int k)).toArray (bs.map (Value.int k)).toArray hu hue
        have he : (Op.equal ty (.agg (as.map (Value.int k)).toArray) (.agg (bs.map (Value.int k)).toArray)).run P w = .ok (decide (as = bs)) w := run_equalIn_ints w ty te k as bs hu hue hs h3 9998
        split at hk
        · exact ⟨_, _, by simp only [execOp, ho, ex, ey, hg, binOp, he, Sem.run_bind, Result.andThen_ok, Sem.run_pure], .bool _, hd, hk⟩
        · exact ⟨_, _, by simp only [execOp, ho, ex, ey, hg, binOp, he, Sem.run_bind, Result.andThen_ok, Sem.run_pure], .bool _, hd, hk⟩
        · exact hk.elim
      | _ => simp [vbin] at hk
    | _ => simp [vbin] at hk

end
end Go.Ab
