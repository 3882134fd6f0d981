/- Builtins and calls in abstract terms. No statement of the seat is proved here; it holds for every program. -/
import Derived.Test.YtkgjdmbmdnmilaaAbOps4
set_option linter.all false
namespace Go.Ab
open Go.RowKit (Below)

section
variable {P : Program} {N : Nat} {o : Oper} {fr : Fr} {H : Heap} {K : Fr → Heap → Prop}

theorem ok_lenSl {t : TypeId} {x : Operand} (ho : o.op = .call { callee := .builtin .len, args := #[x], argTypes := #[t] }) {te : TypeId} (ht : P.underlying t = some (.slice te)) {a : Option Addr} {n c : Nat} (hx : ev fr x = some (.slice a n c))
    (hd : dstOK N o.dst) (hk : K (fr.put o.dst (.int .i64 n)) H) : OpOK P N o fr H K :=
  opOK_same fun ρ w ac hF => by
    have hv := hF.ev hx
    have hex : ∃ a' c', ac.eval x = .slice a' n c' := by
      generalize ac.eval x = cx at hv
      cases hv with
      | sliceNil => exact ⟨_, _, rfl⟩
      | sliceEx => exact ⟨_, _, rfl⟩
      | sliceUnk => exact ⟨_, _, rfl⟩
      | sliceZero => exact ⟨_, _, rfl⟩
    obtain ⟨a', c', he⟩ := hex
    exact ⟨_, _, by simp [execOp, ho, resolve, invoke, builtin, he, Builtin.len_, run_underlying' ht, goInt], .int _ _, hd, hk⟩

theorem ok_lenStr {t : TypeId} {x : Operand} (ho : o.op = .call { callee := .builtin .len, args := #[x], argTypes := #[t] }) (ht : P.underlying t = some .string) {s : ByteArray} (hx : ev fr x = some (.string s))
    (hd : dstOK N o.dst) (hk : K (fr.put o.dst (.int .i64 s.size)) H) : OpOK P N o fr H K :=
  opOK_same fun ρ w ac hF =>
    ⟨_, _, by simp [execOp, ho, resolve, invoke, builtin, (hF.ev hx).string_inv, Builtin.len_, run_underlying' ht, goInt], .int _ _, hd, hk⟩

/-- cap, where the capacity is known. -/
theorem ok_capSl {t : TypeId} {x : Operand} (ho : o.op = .call { callee := .builtin .cap, args := #[x], argTypes := #[t] }) {te : TypeId} (ht : P.underlying t = some (.slice te)) (hx : ev fr x = some (.slice none 0 0))
    (hd : dstOK N o.dst) (hk : K (fr.put o.dst (.int .i64 0)) H) : OpOK P N o fr H K :=
  opOK_same fun ρ w ac hF => by
    have he : ac.eval x = .slice none 0 0 := by
      have := hF.ev hx
      generalize ac.eval x = cx at this
      cases this; rfl
    exact ⟨_, _, by simp [execOp, ho, resolve, invoke, builtin, he, Builtin.cap_, run_underlying' ht, goInt], .int _ _, hd, hk⟩

theorem ok_min2 {ts : Array TypeId} {x y : Operand} (ho : o.op = .call { callee := .builtin .min, args := #[x, y], argTypes := ts }) {k k' : IntKind} {a b : Int} (hx : ev fr x = some (.int k a)) (hy : ev fr y = some (.int k' b))
    (hd : dstOK N o.dst) (hk : K (fr.put o.dst (.int k (if b < a then b else a))) H) : OpOK P N o fr H K :=
  opOK_same fun ρ w ac hF =>
    ⟨_, _, by simp [execOp, ho, resolve, invoke, builtin, (hF.ev hx).int_inv, (hF.ev hy).int_inv, run_min_int2], .int _ _, hd, hk⟩

theorem ok_max2 {ts : Array TypeId} {x y : Operand} (ho : o.op = .call { callee := .builtin .max, args := #[x, y], argTypes := ts }) {k k' : IntKind} {a b : Int} (hx : ev fr x = some (.int k a)) (hy : ev fr y = some (.int k' b))
    (hd : dstOK N o.dst) (hk : K (fr.put o.dst (.int k (if a < b then b else a))) H) : OpOK P N o fr H K :=
  opOK_same fun ρ w ac hF =>
    ⟨_, _, by simp [execOp, ho, resolve, invoke, builtin, (hF.ev hx).int_inv, (hF.ev hy).int_inv, run_max_int2], .int _ _, hd, hk⟩

theorem ok_min3 {ts : Array TypeId} {x y z : Operand} (ho : o.op = .call { callee := .builtin .min, args := #[x, y, z], argTypes := ts }) {k k' k'' : IntKind} {a b c : Int} (hx : ev fr x = some (.int k a)) (hy : ev fr y = some (.int k' b)) (hz : ev fr z = some (.int k'' c))
    (hd : dstOK N o.dst) (hk : K (fr.put o.dst (.int k (if c < (if b < a then b else a) then c else (if b < a then b else a)))) H) : OpOK P N o fr H K :=
  opOK_same fun ρ w ac hF =>
    ⟨_, _, by simp [execOp, ho, resolve, invoke, builtin, (hF.ev hx).int_inv, (hF.ev hy).int_inv, (hF.ev hz).int_inv, Builtin.min_, Builtin.min2], .int _ _, hd, hk⟩

theorem ok_max3 {ts : Array TypeId} {x y z : Operand} (ho : o.op = .call { callee := .builtin .max, args := #[x, y, z], argTypes := ts }) {k k' k'' : IntKind} {a b c : Int} (hx : ev fr x = some (.int k a)) (hy : ev fr y = some (.int k' b)) (hz : ev fr z = some (.int k'' c))
    (hd : dstOK N o.dst) (hk : K (fr.put o.dst (.int k (if (if a < b then b else a) < c then c else (if a < b then b else a)))) H) : OpOK P N o fr H K :=
  opOK_same fun ρ w ac hF =>
    ⟨_, _, by simp [execOp, ho, resolve, invoke, builtin, (hF.ev hx).int_inv, (hF.ev hy).int_inv, (hF.ev hz).int_inv, Builtin.max_, Builtin.max2], .int _ _, hd, hk⟩

/-- The cells of a slice that is read. -/
def srcCells (H : Heap) (e : Nat) : Value → Option (List Value)
  | .slice none 0 0 => some []
  | .slice (some ⟨i, o, _⟩) n _ => if n = 0 then some [] else cellsAt H i o (n * e)
  | _ => none

theorem R.src {B : Nat} {w0 : World} {ρ : Rho} {w : World} (hR : R B w0 ρ H w) {e : Nat} {v cv : Value} {cs : List Value} (hc : srcCells H e v = some cs) (hv : VR ρ v cv) :
    ∃ ax cc ds, cv = .slice ax (lenV v) cc ∧ ds.length = lenV v * e ∧ VRs ρ cs ds ∧ (∀ u ∈ ds, u.oneCell' = true) ∧ (0 < lenV v → ∃ a, ax = some a ∧ ∀ (j : Nat) (u : Value), ds[j]? = some u → w.cell? (a.add j) = some u) := by
  have zero : ∀ (ax : Option Addr) (cc : Nat), ∃ (ax' : Option Addr) (cc' : Nat) (ds : List Value), Value.slice ax 0 cc = .slice ax' 0 cc' ∧ ds.length = 0 * e ∧ VRs ρ [] ds ∧ (∀ u ∈ ds, u.oneCell' = true) ∧ (0 < 0 → ∃ a, ax' = some a ∧ ∀ (j : Nat) (u : Value), ds[j]? = some u → w.cell? (a.add j) = some u) :=
    fun ax cc => ⟨ax, cc, [], rfl, by simp, VRs.nil _, by simp, by omega⟩
  cases hv with
  | sliceNil => simp only [srcCells, Option.some.injEq] at hc; subst hc; exact zero none 0
  | sliceEx i o n l hl =>
    simp only [srcCells] at hc
    split at hc
    · rename_i h0; subst h0; cases hc; exact zero _ _
    · rename_i h0
      obtain ⟨l', ds, hl', hlen, hr, h1, hcell⟩ := hR.cellsAt hc
      rw [hl] at hl'; cases hl'
      exact ⟨_, _, ds, rfl, by rw [← hr.1]; exact hlen, hr, h1, fun _ => ⟨_, rfl, fun j u hj => by rw [add_zero_addr]; exact hcell j u hj⟩⟩
  | sliceZero i o e' a => simp [srcCells] at hc; subst hc; exact zero _ _
  | sliceUnk i o e' n o' c l hl h2 h3 h4 =>
    simp only [srcCells] at hc
    split at hc
    · rename_i h0; subst h0; cases hc; exact zero _ _
    · rename_i h0
      obtain ⟨l', ds, hl', hlen, hr, h1, hcell⟩ := hR.cellsAt hc
      rw [hl] at hl'; cases hl'
      have e2 : o' = l.off + o := by rcases h2 with h2 | h2; exact h2; exact absurd h2.1 h0
      subst e2
      exact ⟨_, _, ds, rfl, by rw [← hr.1]; exact hlen, hr, h1, fun _ => ⟨_, rfl, fun j u hj => by rw [add_zero_addr]; exact hcell j u hj⟩⟩
  | _ => simp [srcCells] at hc

theorem ok_append {t : TypeId} {x y : Operand} (ho : o.op = .call { callee := .builtin .append, args := #[x, y], argTypes := #[t, t] }) {te : TypeId} (ht : P.underlying t = some (.slice te)) {τ : TI} (hte : ti P te = some τ)
    {s v : Value} (hx : ev fr x = some s) (hy : ev fr y = some v) {news : List Value} (hs : srcCells H τ.size v = some news) (hb : (lenV s + lenV v) * τ.bytes ≤ 140737488355328) (hb' : lenV s + lenV v ≤ 140737488355328)
    {v' : Value} {H' : Heap} (hap : appendH H τ.size s (lenV v) news = some (v', H')) (hd : dstOK N o.dst) (hk : K (fr.put o.dst v') H') : OpOK P N o fr H K :=
  opOK_value fun B w0 ρ w a hR hF => by
    obtain ⟨ax, cc, ds, he, hdl, hdr, hd1, hdc⟩ := hR.src hs (hF.ev hy)
    obtain ⟨cv, w', ρ', hr, hp, hR', hv⟩ := hR.append (t := t) (ty := o.type) ht hte hap (hF.ev hx) he hdl hdr hd1 hdc (fun a' k c e => by subst e; exact ⟨hb, hb'⟩)
    exact ⟨cv, w', ρ', H', v', by simp only [execOp, ho, resolve, invoke, builtin, Sem.run_bind, Sem.run_pure, Result.andThen_ok, List.map_toArray, List.map_cons, List.map_nil, hr], hp, hR', hv, hd, hk⟩

/-- append(nil, make([]T, n)...), as slices.Grow does it. -/
theorem ok_appendMake {t t' : TypeId} {x y : Operand} (ho : o.op = .call { callee := .builtin .append, args := #[x, y], argTypes := #[t, t'] }) {te : TypeId} (ht : P.underlying t = some (.slice te)) {k' : IntKind} (ht' : P.underlying t' = some (.int k')) {τ : TI} (hte : ti P te = some τ) (hz : zeroOK P te = true) (h0 : 0 < τ.size)
    (hx : ev fr x = some (.slice none 0 0)) {k : IntKind} {n : Nat} (hy : ev fr y = some (.int k n)) (hn : 0 < n) (hb : n * τ.bytes ≤ 140737488355328) (hb' : n ≤ 140737488355328) (hby0 : τ.bytes ≠ 0)
    (hd : dstOK N o.dst) (hk : K (fr.put o.dst (.slice (some ⟨H.length, 0, some τ.size⟩) n n)) (H ++ [⟨(Builtin.zeroCells τ.zero.cells n).toList, true, true⟩])) : OpOK P N o fr H K :=
  opOK_value fun B w0 ρ w a hR hF => by
    obtain ⟨ii, hu, hi, hsz, hby, hzr, hzs⟩ := ti_inv hte
    have hxe : a.eval x = .slice none 0 0 := by
      have := hF.ev hx
      generalize a.eval x = cx at this
      cases this; rfl
    have hye := (hF.ev hy).int_inv
    have hw : IntKind.i64.wrap (n : Int) = n := by rw [IntKind.wrap_i64]; omega
    have e1 : ¬ ((n : Int) < 0) := by omega
    have e2 : ¬ (281474976710656 < (n : Int) * (τ.bytes : Int)) := by
      have h := Int.ofNat_le.2 hb
      rw [Int.natCast_mul] at h
      omega
    have e3 : ¬ (n = 0) := by omega
    have e5 : ¬ (281474976710656 < Builtin.nextslicecap n 0 * τ.bytes) := by rw [nextslicecap_zero hn]; omega
    have e6 : ¬ (n = 0 ∨ τ.size = 0) := by omega
    have e8 : ¬ (n * τ.size = 0) := by intro h; rcases Nat.mul_eq_zero.1 h with h | h <;> omega
    have e7 : ¬ (9223372036854775807 < (n : Int)) := by omega
    have hcl : (Builtin.zeroCells τ.zero.cells n).toList.all closed0 = true := by
      have : Builtin.zeroCells τ.zero.cells n = madeCells τ.zero.cells (n * τ.zero.cells.size) := rfl
      rw [this]
      refine made_closed ?_ (.inr (by rw [hzs]; exact h0))
      unfold zeroOK at hz
      simpa [hi, hzr] using hz
    have hge := grownCap_ge w n 0 te
    refine ⟨.slice (some ⟨w.heap.size, 0, none⟩) n (grownCap w n 0 te), w.drew.alloc (.cells (Builtin.zeroCells τ.zero.cells n ++ Builtin.zeroCells τ.zero.cells (grownCap w n 0 te - n)) te), _, _, _, ?_, List.prefix_append _ _,
      hR.drew.alloc (Builtin.zeroCells τ.zero.cells n).toList (Builtin.zeroCells τ.zero.cells n ++ Builtin.zeroCells τ.zero.cells (grownCap w n 0 te - n)) te ?_, ?_, hd, hk⟩
    · simp [execOp, ho, resolve, invoke, builtin, hxe, hye, Builtin.append_, run_underlying' ht, run_underlying' ht', sizeOf, typeInfo, hi, zeroValue, hzr, hsz, hby, asInt, asIntOf, hw, e1, e2, e3, e5, e6, e7, e8, hby0, Question.forced, Builtin.firstCells, newRow, grownCap]
    · intro j v hv
      have hc := List.all_eq_true.1 hcl v (List.mem_of_getElem? hv)
      refine ⟨by cases v <;> first | rfl | simp [closed0] at hc, v, ?_, VR.closed0 hc⟩
      have hlt : j < (Builtin.zeroCells τ.zero.cells n).size := by simpa using (List.getElem?_eq_some_iff.1 hv).1
      rw [Array.getElem?_append_left hlt]
      simpa using hv
    · refine .sliceUnk _ _ _ _ _ _ (⟨w.drew.heap.size, 0, (Builtin.zeroCells τ.zero.cells n ++ Builtin.zeroCells τ.zero.cells (grownCap w n 0 te - n)).size⟩ : Loc) ?_ (.inl (by simp)) hge ?_
      · rw [List.getElem?_append_right (by rw [hR.len]; exact Nat.le_refl _), hR.len]; simp
      · simp only [Array.size_append, size_zeroCells, hzs]
        rw [← Nat.add_mul]
        have : n + (grownCap w n 0 te - n) = grownCap w n 0 te := by omega
        rw [this]; omega

theorem ok_clear {t : TypeId} {x : Operand} (ho : o.op = .call { callee := .builtin .clear, args := #[x], argTypes := #[t] }) {te : TypeId} (ht : P.underlying t = some (.slice te)) {τ : TI} (hte : ti P te = some τ) (hz : zeroOK P te = true) (h0 : 0 < τ.size)
    {a : Option Addr} {n c : Nat} (hx : ev fr x = some (.slice a n c)) {H' : Heap} (hst : if n = 0 then H' = H else ∃ i off sp, a = some ⟨i, off, sp⟩ ∧ storeAt H i off (Builtin.zeroCells τ.zero.cells n).toList = some H')
    (hd : dstOK N o.dst) (hk : K (fr.put o.dst (.tuple #[])) H') : OpOK P N o fr H K :=
  opOK_value fun B w0 ρ w ac hR hF => by
    obtain ⟨ii, hu, hi, hsz, hby, hzr, hzs⟩ := ti_inv hte
    have hv := hF.ev hx
    by_cases hn : n = 0
    · subst hn
      rw [if_pos rfl] at hst
      subst hst
      have hex : ∃ a' c', ac.eval x = .slice a' 0 c' := by
        generalize ac.eval x = cx at hv
        cases hv with
        | sliceNil => exact ⟨_, _, rfl⟩
        | sliceEx => exact ⟨_, _, rfl⟩
        | sliceUnk => exact ⟨_, _, rfl⟩
        | sliceZero => exact ⟨_, _, rfl⟩
      obtain ⟨a', c', he⟩ := hex
      refine ⟨.tuple #[], w, ρ, H', _, ?_, List.prefix_refl _, hR, VR.tuple_of (VRs.nil _), hd, hk⟩
      cases a' <;> simp [execOp, ho, resolve, invoke, builtin, he, Builtin.clear_, run_underlying' ht]
    · rw [if_neg hn] at hst
      obtain ⟨i, off, sp, rfl, hst⟩ := hst
      have hcl : (Builtin.zeroCells τ.zero.cells n).toList.all closed0 = true := by
        have : Builtin.zeroCells τ.zero.cells n = madeCells τ.zero.cells (n * τ.zero.cells.size) := rfl
        rw [this]
        refine made_closed ?_ (.inr (by rw [hzs]; exact h0))
        unfold zeroOK at hz
        simpa [hi, hzr] using hz
      have hex : ∃ (l : Loc) (c' : Nat), ρ[i]? = some l ∧ ac.eval x = .slice (some ⟨l.blk, l.off + off, none⟩) n c' := by
        generalize ac.eval x = cx at hv
        cases hv with
        | sliceEx _ _ _ l hl => exact ⟨l, n, hl, rfl⟩
        | sliceUnk _ _ e _ o' c' l hl h2 h3 h4 =>
          have : o' = l.off + off := by rcases h2 with h2 | h2; exact h2; exact absurd h2.1 hn
          subst this
          exact ⟨l, c', hl, rfl⟩
        | sliceZero => exact absurd rfl hn
      obtain ⟨l, c', hl, he⟩ := hex
      have hvr : VR ρ (.agg (Builtin.zeroCells τ.zero.cells n)) (.agg (Builtin.zeroCells τ.zero.cells n)) := VR.agg_of (VRs.closed hcl)
      obtain ⟨w', hrun, hR'⟩ := hR.storeVar (P := P) hvr hst hl
      refine ⟨.tuple #[], w', ρ, H', _, ?_, List.prefix_refl _, hR', VR.tuple_of (VRs.nil _), hd, hk⟩
      have hrun' : (storeCells ⟨l.blk, l.off + off, none⟩ (Builtin.zeroCells τ.zero.cells n).toList).run P w = .ok () w' := hrun
      obtain ⟨m, rfl⟩ : ∃ m, n = m + 1 := ⟨n - 1, by omega⟩
      simp [execOp, ho, resolve, invoke, builtin, he, Builtin.clear_, run_underlying' ht, zeroValue, typeInfo, hi, hzr, hrun']

/-- string(b) of bytes. -/
def bytesOf : List Value → Option (List UInt8)
  | [] => some []
  | .int .u8 n :: vs => (bytesOf vs).map (UInt8.ofNat n.toNat :: ·)
  | _ :: _ => none

theorem bytesOf_rel {ρ : Rho} : ∀ {vs ws : List Value} {bs : List UInt8}, bytesOf vs = some bs → VRs ρ vs ws → bytesOf ws = some bs
  | [], ws, bs, h, hr => by rw [hr.nil_inv]; exact h
  | v :: vs, ws, bs, h, hr => by
    obtain ⟨u, us, rfl, h1, h2⟩ := hr.cons_inv
    cases v with
    | int k n =>
      cases k <;> try (simp [bytesOf] at h; done)
      case u8 =>
        simp only [bytesOf] at h
        cases hb : bytesOf vs with
        | none => simp [hb] at h
        | some cs =>
          rw [h1.int_inv]
          simp only [bytesOf, bytesOf_rel hb h2]
          simpa [hb] using h
    | _ => simp [bytesOf] at h

theorem run_forIn_bytes (w : World) (f : Value → ByteArray → Sem (ForInStep ByteArray)) (hf : ∀ n r, f (.int .u8 n) r = pure (ForInStep.yield (r.push (UInt8.ofNat n.toNat)))) : ∀ (vs : List Value) (bs : List UInt8) (s : ByteArray), bytesOf vs = some bs →
    (forIn vs s f).run P w = .ok ⟨s.data ++ bs.toArray⟩ w
  | [], bs, s, h => by simp [bytesOf] at h; subst h; simp
  | v :: vs, bs, s, h => by
    cases v with
    | int k n =>
      cases k <;> try (simp [bytesOf] at h; done)
      case u8 =>
        simp only [bytesOf] at h
        cases hb : bytesOf vs with
        | none => simp [hb] at h
        | some cs =>
          simp [hb] at h
          subst h
          have ih := run_forIn_bytes w f hf vs cs (s.push (UInt8.ofNat n.toNat)) hb
          simp only [List.forIn_cons, hf, Sem.run_bind, Sem.run_pure, Result.andThen_ok]
          rw [ih]
          congr 1
          simp [ByteArray.push]
    | _ => simp [bytesOf] at h

theorem ok_bytesToString {s t : TypeId} {x : Operand} (ho : o.op = .convert s t x) {te : TypeId} (hs : P.underlying s = some (.slice te)) (ht : P.underlying t = some .string) (hte : P.underlying te = some (.int .u8)) {v : Value} (hx : ev fr x = some v)
    {cs : List Value} (hc : srcCells H 1 v = some cs) {bs : List UInt8} (hb : bytesOf cs = some bs) (hd : dstOK N o.dst) (hk : K (fr.put o.dst (.string ⟨bs.toArray⟩)) H) : OpOK P N o fr H K :=
  opOK_value fun B w0 ρ w a hR hF => by
    obtain ⟨ax, cc, ds, he, hdl, hdr, hd1, hdc⟩ := hR.src hc (hF.ev hx)
    have hbd := bytesOf_rel hb hdr
    refine ⟨.string ⟨bs.toArray⟩, w, ρ, H, _, ?_, List.prefix_refl _, hR, .string _, hd, hk⟩
    cases ax with
    | none =>
      have h0 : lenV v = 0 := by
        rcases Nat.eq_zero_or_pos (lenV v) with h | h
        · exact h
        · obtain ⟨_, h2, _⟩ := hdc h; cases h2
      have : ds = [] := List.eq_nil_of_length_eq_zero (by rw [hdl, h0])
      subst this
      simp [bytesOf] at hbd
      subst hbd
      simp only [execOp, ho, convert, he, Sem.run_bind, run_underlying' hs, run_underlying' ht, Result.andThen_ok, run_underlying' hte, Conv.bytesToString, Sem.run_pure]
      rfl
    | some ad =>
      have hl := run_loadCells_list (P := P) w ad ds (fun j u hj => by
        rcases Nat.eq_zero_or_pos (lenV v) with h | h
        · have : ds = [] := List.eq_nil_of_length_eq_zero (by rw [hdl, h])
          subst this; simp at hj
        · obtain ⟨_, h2, h3⟩ := hdc h; cases h2; exact h3 j u hj)
      have hlen : lenV v = ds.length := by rw [hdl]; simp
      rw [hlen] at he
      have hce : (⟨ByteArray.empty.data ++ bs.toArray⟩ : ByteArray) = ⟨bs.toArray⟩ := by show (⟨(#[] : Array UInt8) ++ bs.toArray⟩ : ByteArray) = _; rw [Array.empty_append]
      simp only [execOp, ho, convert, he, Sem.run_bind, run_underlying' hs, run_underlying' ht, Result.andThen_ok, run_underlying' hte, Conv.bytesToString, hl]
      simp only [← Array.forIn_toList]
      rw [run_forIn_bytes (P := P) w _ (fun n r => rfl) ds bs .empty hbd, hce]
      rfl

theorem ok_call {x : Operand} {args : Array Operand} {ts : Array TypeId} (ho : o.op = .call { callee := .value x, args := args, argTypes := ts }) {g : FuncId} {first captured : Array Value} (hx : ev fr x = some (.func (.func g) first captured))
    {vs : List Value} (ha : evs fr args.toList = some vs) (hd : dstOK N o.dst) (hk : ACalls P g (first.toList ++ vs ++ captured.toList) H (fun v H' => K (fr.put o.dst v) H')) : OpOK P N o fr H K := by
  intro B w0 ρ w a K' Q hR hF hK
  obtain ⟨⟨fn, hfn, hbody, hname⟩, hcalls⟩ := hk
  obtain ⟨as', bs', he, hr1, hr2⟩ := (hF.ev hx).func_inv
  have hr := hF.evs ha
  have hcall := hcalls B w0 ρ w (as'.toList ++ args.toList.map a.eval ++ bs'.toList) hR ((hr1.append hr).append hr2)
  unfold Oper.wp
  have hb : fn.body.isNone = false := by cases h : fn.body <;> simp [h] at hbody ⊢
  have hname' : ¬ (fn.name = "runtime.NumGoroutine") := by simpa using hname
  have hb' : ¬ (fn.body = none) := by intro h; simp [h] at hb
  have hrun : (execOp a.eval o).run P w = .ok (.enter g (as'.toList ++ args.toList.map a.eval ++ bs'.toList).toArray) w := by
    simp [execOp, ho, resolve, Deferred.ofValue, he, invoke, callFunc, hfn, hname', hb']
  rw [hrun, Oper.upon_enter]
  refine hcall.mono ?_
  rintro e w' ⟨ρ', H', v, cv, rfl, hp, hR', hv, hkk⟩
  exact hK ρ' _ H' _ w' hp hkk hR' ((hF.mono hp).put hd hv)

end
end Go.Ab
