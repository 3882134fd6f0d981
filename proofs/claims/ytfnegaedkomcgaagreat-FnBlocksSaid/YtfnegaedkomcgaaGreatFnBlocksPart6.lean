/- Part 6 of what the proof of the law FnBlocks rests on: contracts of functions of the program, for every argument that each names; no statement of the seat is proved here. -/
import Derived.Test.YtfnegaedkomcgaaGreatFnBlocksPart5

set_option linter.all false
set_option maxRecDepth 20000
set_option maxHeartbeats 8000000
section
namespace Go.Ab
open Go.RowKit (Below)

section
variable {P : Program} {N : Nat} {ops : Array Oper} {o : Oper} {fr : Fr} {H : Heap} {K : Fr -> Heap -> Prop}

def StepOK (P : Program) (N : Nat) (ops : Array Oper) (o : Oper) (K : Fr -> Heap -> Prop) (fr : Fr) (H : Heap) : Prop :=
  ∀ (B : Nat) (w0 : World) (ρ : Rho) (w : World) (a : Act) (next : Act -> World -> Prop) (Q : Exit -> Act -> World -> Prop), R B w0 ρ H w -> FR N ρ fr a ->
    (∀ (ρ' : Rho) (fr' : Fr) (H' : Heap) (a' : Act) (w' : World), ρ <+: ρ' -> K fr' H' -> R B w0 ρ' H' w' -> FR N ρ' fr' a' -> next a' w') -> opDue P ops o a w next Q

theorem StepOK.of_v (h : vstep P N ops o K fr H) : StepOK P N ops o K fr H :=
  fun B w0 ρ w a next Q hR hF hK => vstep_sound h hR hF Q hK
theorem StepOK.of_op (hg : o.guard = none) (h : OpOK P N o fr H K) : StepOK P N ops o K fr H := by
  intro B w0 ρ w a next Q hR hF hK
  unfold opDue
  have : Region.wanted o (yielded ops a.tmps) = true := by simp [Region.wanted, hg]
  rw [if_pos this]
  exact .inl (h B w0 ρ w a next Q hR hF hK)

def OpsOK (P : Program) (N : Nat) (ops : Array Oper) (K : Fr -> Heap -> Prop) : List Oper -> Fr -> Heap -> Prop
  | [], fr, H => K fr H
  | o :: rest, fr, H => StepOK P N ops o (OpsOK P N ops K rest) fr H

theorem opsOK_sound {B : Nat} {w0 : World} {Q : Exit -> Act -> World -> Prop} : ∀ (l : List Nat) (os : List Oper), l.map (ops[·]?) = os.map some -> ∀ (fr : Fr) (H : Heap) (ρ : Rho) (w : World) (a : Act),
    OpsOK P N ops K os fr H -> R B w0 ρ H w -> FR N ρ fr a ->
    (∀ (ρ' : Rho) (fr' : Fr) (H' : Heap) (a' : Act) (w' : World), ρ <+: ρ' -> K fr' H' -> R B w0 ρ' H' w' -> FR N ρ' fr' a' -> Q .normal a' w') -> wpOps P ops Q l a w
  | [], [], _, fr, H, ρ, w, a, h, hR, hF, hK => hK ρ fr H a w (List.prefix_refl _) h hR hF
  | i :: l, o :: os, hl, fr, H, ρ, w, a, h, hR, hF, hK => by
    simp only [List.map_cons, List.cons.injEq] at hl
    rw [wpOps_cons hl.1]
    refine h B w0 ρ w a _ Q hR hF ?_
    intro ρ' fr' H' a' w' hp hk hR' hF'
    exact opsOK_sound l os hl.2 fr' H' ρ' w' a' hk hR' hF' (fun ρ'' fr'' H'' a'' w'' hp' => hK ρ'' fr'' H'' a'' w'' (hp.trans hp'))
  | [], _ :: _, hl, _, _, _, _, _, _, _, _, _ => by simp at hl
  | _ :: _, [], hl, _, _, _, _, _, _, _, _, _ => by simp at hl

theorem AWp.regionS {id : Nat} {Q : Exit -> Fr -> Heap -> Prop} (h : OpsOK P N ops (Q .normal) ops.toList fr H) : AWp P N (.region id ops false) Q fr H :=
  fun B w0 ρ w a hR hF => wp_region (opsOK_sound (List.range ops.size) ops.toList (range_map_get ops) fr H ρ w a h hR hF
    (fun ρ' fr' H' a' w' h1 h2 h3 h4 => ⟨ρ', fr', H', h1, h3, h4, h2⟩))

theorem ok_eqlNil2 {ty ty' : TypeId} {x y : Operand} (ho : o.op = .binOp .eql ty x y ty') {te : TypeId} (ht : P.underlying ty = some (.slice te)) {a : Option Addr} {n c : Nat} (hx : ev fr x = some (.slice a n c)) (hy : ev fr y = some (.slice none 0 0))
    (hd : dstOK N o.dst) (hk : ∀ b : Bool, K (fr.put o.dst (.bool b)) H) : OpOK P N o fr H K :=
  opOK_same fun ρ w ac hF => by
    have hv := hF.ev hx
    have hyv : ac.eval y = .slice none 0 0 := by
      have := hF.ev hy
      generalize ac.eval y = cy at this
      cases this; rfl
    have hex : ∃ a' n' c', ac.eval x = .slice a' n' c' := by
      generalize ac.eval x = cx at hv
      cases hv with
      | sliceNil => exact ⟨_, _, _, rfl⟩
      | sliceEx => exact ⟨_, _, _, rfl⟩
      | sliceUnk => exact ⟨_, _, _, rfl⟩
      | sliceZero i o e a' => exact ⟨a', 0, 0, rfl⟩
    obtain ⟨a', n', c', he⟩ := hex
    have hg := run_eqGuard_plain (P := P) w .eql ty x y (.slice a' n' c') (.slice none 0 0) rfl
    have heq : (Op.equal ty (.slice a' n' c') (.slice none 0 0)).run P w = .ok a'.isNone w := run_equalIn_slNil w ht a' n' c' 9999
    exact ⟨.bool a'.isNone, .bool a'.isNone, by simp [execOp, ho, he, hyv, hg, binOp, heq], .bool _, hd, hk _⟩
end

end Go.Ab
end

section
namespace Go.Proofs.YtfnegaedkomcgaaGreat
open Go.Ab

theorem ints_src {H : Heap} {i o : Nat} {xs : List Int} (h : At H i o (ints xs)) : srcCells H 1 (lv 1 i o xs.length) = some (ints xs) := h.src (by rw [ints_length]; omega) (by omega) _

theorem l01Own_oe {H : Heap} {u : Value} {xs : List Int} (hu : IntsAt H u xs) (hl : xs.length <= 1048576) (Post : Value -> Heap -> Prop) (h : ∀ H' w, H <+: H' -> OE 1 H.length H' w (ints xs) xs.length -> Post w H') :
    ACalls Tryz.prog 112 [u] H Post := by
  obtain ⟨i, o, rfl, h1, h2⟩ := hu
  refine acalls_vc (rs := [.tmp 2]) Tryz.func112 rfl rfl Tryz.ntmps112 rfl rfl ?_
  have hp0 : H <+: H ++ [⟨[], true, true⟩] := List.prefix_append _ _
  have hsrc := ints_src (h1.pre hp0)
  simp only [srcCells, Nat.mul_one] at hsrc
  have he0 : OE 1 H.length (H ++ [(⟨[], true, true⟩ : Blk)]) (.slice (some ⟨H.length, 0, none⟩) 0 0) [] 0 := OE.empty (Nat.le_refl _) (by simp)
  obtain ⟨v, H2, hap, he2, hk2, hl2⟩ := he0.append (m := xs.length) (news := ints xs) (by omega) (by simp) (by rw [ints_length]; omega)
  generalize hm : xs.length = m at *
  simp (maxSteps := 1000000) [go_sem, hsrc, hap]
  refine andK_intro (by omega) ?_
  simp only [List.nil_append, Nat.zero_add] at he2
  exact h H2 v (KeepL.prefix hp0 (Nat.le_refl _) hk2 hl2) he2

end Go.Proofs.YtfnegaedkomcgaaGreat
end

section
namespace Go.Proofs.YtfnegaedkomcgaaGreat
open Go.Ab

def maskL (xs : List Int) : Nat := xs.foldl (fun m x => m ||| 2 ^ x.toNat) 0
def bm (b : Bk) : Nat := maskL [b.a, b.b, b.c]
/-! The same, in the shape that a walk shows. -/
end Go.Proofs.YtfnegaedkomcgaaGreat
end

section
namespace Go.Proofs.YtfnegaedkomcgaaGreat
open Go.Ab

def inSet (m : Nat) (b : Bk) : Bool := decide (bm b &&& m = bm b)
def indep (bs : List Bk) (m : Nat) : Bool := bs.all fun b => !inSet m b

noncomputable def setCode (p : Int) (bs : List Bk) (xs : List Int) : Int := if sysB p bs then (if @decide (Rises p xs) (Classical.propDecidable _) then 0 else 2) else 1
theorem setCode_zero {p : Int} {bs : List Bk} {xs : List Int} (h : setCode p bs xs = 0) : IsSys p bs /\ Rises p xs := by
  unfold setCode at h
  split at h
  · rename_i hs
    split at h
    · rename_i hr; exact ⟨sysB_of hs, by simpa using hr⟩
    · omega
  · omega
theorem setCode_good {p : Int} {bs : List Bk} {xs : List Int} (hs : sysB p bs = true) (hr : Rises p xs) : setCode p bs xs = 0 := by simp [setCode, hs, hr]
theorem setCode_bad {p : Int} {bs : List Bk} {xs : List Int} (hs : sysB p bs = true) (hr : ¬ Rises p xs) : setCode p bs xs = 2 := by simp [setCode, hs, hr]
theorem setCode_none {p : Int} {bs : List Bk} {xs : List Int} (hs : sysB p bs = false) : setCode p bs xs = 1 := by simp [setCode, hs]
theorem _root_.Go.Ab.Rises.mem {p : Int} {xs : List Int} (h : Rises p xs) : ∀ x ∈ xs, 0 <= x /\ x < p := by
  intro x hx
  obtain ⟨k, hk⟩ := List.mem_iff_getElem?.1 hx
  exact (h k x hk).1

theorem l01Set_ok {H : Heap} {u v : Value} {p : Int} {bs : List Bk} {xs : List Int} (hu : BlocksAt H u bs) (hl : bs.length <= 1048576) (hv : IntsAt H v xs) (Post : Value -> Heap -> Prop)
    (h : ∀ H', H <+: H' -> Post (.int .i64 (setCode p bs xs)) H') : ACalls Tryz.prog 87 [sysV p u, v] H Post := by
  have hvo := hv
  obtain ⟨i, o, rfl, h1, h2⟩ := hv
  refine acalls_vc (rs := [.tmp 4]) Tryz.func87 rfl rfl Tryz.ntmps87 rfl rfl ?_
  simp (maxSteps := 1000000) [go_sem, sysV, hu.one]
  have hp0 : H <+: H ++ [⟨[.int .i64 p, u], true, true⟩] := List.prefix_append _ _
  refine l01Points_ok (hu.pre hp0) hl (hvo.pre hp0) _ ?_
  intro H1 hp1
  have fin := h H1 (hp0.trans hp1)
  cases hs : sysB p bs with
  | false =>
    have e : ptsCode p bs xs = 1 := by simp [ptsCode, hs]
    simp (maxSteps := 1000000) [go_sem, e]
    rwa [setCode_none hs] at fin
  | true =>
    cases hall : xs.all (inP p) with
    | false =>
      have e : ptsCode p bs xs = 2 := by simp [ptsCode, hs, hall]
      simp (maxSteps := 1000000) [go_sem, e]
      rwa [setCode_bad hs (fun hr => by
        rw [List.all_eq_false] at hall
        obtain ⟨x, hx, hn⟩ := hall
        have := hr.mem x hx
        exact hn (inP_iff.2 (by omega)))] at fin
    | true =>
      have e : ptsCode p bs xs = 0 := by simp [ptsCode, hs, hall]
      simp (maxSteps := 1000000) [go_sem, e]
      rw [List.all_eq_true] at hall
      refine AWp.loopVc (fun s : Nat => [(1, lv 1 i o xs.length), (6, .int .i64 s)])
        (fun s H' => 1 <= s /\ H' = H1 /\ ∀ (a : Nat) (x y : Int), a < s -> 0 < a -> xs[a]? = some x -> xs[a - 1]? = some y -> y < x) (fun s => xs.length - s) 1 ?_ ?_ ?_
      · simp [upF, Fr.get, Up.refl]
      · exact ⟨by omega, rfl, by intro a x y ha h0; omega⟩
      · rintro K s H' ⟨hs1, rfl, hf⟩ hK
        by_cases hlt : s < xs.length
        · obtain ⟨r, rfl⟩ : ∃ r, s = r + 1 := ⟨s - 1, by omega⟩
          have hr : r < xs.length := by omega
          have c1 := (h1.pre (hp0.trans hp1)).cell (k := r + 1) (v := .int .i64 xs[r + 1]) (by simp [ints_get, hlt])
          have c2 := (h1.pre (hp0.trans hp1)).cell (k := r) (v := .int .i64 xs[r]) (by simp [ints_get, hr])
          have hw3 : IntKind.i64.wrap (r : Int) = (r : Int) := i64w (by omega) (by omega)
          have hw4 : IntKind.i64.wrap ((r : Int) + 1 + 1) = (r : Int) + 1 + 1 := i64w (by omega) (by omega)
          have hlt' : ((r : Int) + 1 < (xs.length : Int)) := by omega
          simp (maxSteps := 1000000) [go_sem, hlt, hlt']
          refine AWp.draw mixed [(0, false), (1, false), (2, false), (3, false), (4, false), (5, false), (6, false), (7, false), (8, false), (9, false)] (by kernel_rfl) ?_
          simp (maxSteps := 1000000) [go_sem, hlt, hlt', hr, c1, c2, hw3, hw4]
          refine andK_intro (by omega) (condK_intro (fun hge => ?_) (fun hgt => ?_))
          · have hge : xs[r + 1] <= xs[r] := by simpa using hge
            rwa [setCode_bad hs (fun hrr => by
              have := (hrr (r + 1) xs[r + 1] (by simp [hlt])).2 xs[r] (by omega) (by simp [hr])
              omega)] at fin
          · have hgt : xs[r] < xs[r + 1] := by simpa using hgt
            refine hK (r + 1 + 1) _ _ (by omega) (by simp [upF, Fr.get, Up.refl]) ⟨by omega, rfl, ?_⟩
            intro a x y ha h0 hx hy
            by_cases har : a = r + 1
            · subst har
              rw [List.getElem?_eq_getElem hlt] at hx
              rw [Nat.add_sub_cancel, List.getElem?_eq_getElem hr] at hy
              cases hx; cases hy; exact hgt
            · exact hf a x y (by omega) h0 hx hy
        · have hlt' : ¬ ((s : Int) < (xs.length : Int)) := by omega
          simp (maxSteps := 1000000) [go_sem, hlt, hlt']
          rwa [setCode_good hs (fun a x hx => ⟨by
              have := inP_iff.1 (hall x (List.mem_of_getElem? hx)); omega, fun y h0 hy => hf a x y (by have := (List.getElem?_eq_some_iff.1 hx).1; omega) h0 hx hy⟩)] at fin

end Go.Proofs.YtfnegaedkomcgaaGreat
end

section
namespace Go.Proofs.YtfnegaedkomcgaaGreat
open Go.Ab

def insRev (x : Bk) : List Bk -> List Bk
  | [] => [x]
  | y :: l => if before x y then y :: insRev x l else x :: y :: l
def insR (x : Bk) (l : List Bk) : List Bk := (insRev x l.reverse).reverse
def sortB (bs : List Bk) : List Bk := bs.foldl (fun l x => insR x l) []
theorem insRev_append {x : Bk} {B : List Bk} (hB : ∀ y l, B = y :: l -> before x y = false) : ∀ {A : List Bk}, (∀ y ∈ A, before x y = true) -> insRev x (A ++ B) = A ++ x :: B
  | [], _ => by
    cases B with
    | nil => rfl
    | cons y l => simp [insRev, hB y l rfl]
  | y :: A, h => by
    simp only [List.cons_append, insRev, h y List.mem_cons_self, if_true]
    rw [insRev_append hB fun z hz => h z (List.mem_cons_of_mem _ hz)]
theorem insR_at {x : Bk} {l : List Bk} {k : Nat} (hk : k <= l.length) (h1 : ∀ y ∈ l.drop k, before x y = true) (h2 : ∀ (r : Nat) (y : Bk), k = r + 1 -> l[r]? = some y -> before x y = false) : insR x l = l.take k ++ x :: l.drop k := by
  unfold insR
  conv => lhs; rw [<- List.take_append_drop k l]
  rw [List.reverse_append, insRev_append (B := (l.take k).reverse) ?_ (fun y hy => h1 y (by simpa using hy))]
  · simp
  · intro y t e
    cases k with
    | zero => simp at e
    | succ r =>
      have hr : r < l.length := by omega
      have e2 : (l.take (r + 1)).reverse = l[r] :: (l.take r).reverse := by rw [List.take_succ_eq_append_getElem hr]; simp
      rw [e2] at e
      cases e
      exact h2 r _ rfl (List.getElem?_eq_getElem hr)
theorem insR_length (x : Bk) (l : List Bk) : (insR x l).length = l.length + 1 := by
  have key : ∀ l : List Bk, (insRev x l).length = l.length + 1 := by
    intro l
    induction l with
    | nil => rfl
    | cons y l ih => simp only [insRev]; split <;> simp [ih]
  unfold insR; rw [List.length_reverse, key, List.length_reverse]
theorem sortB_snoc (bs : List Bk) (x : Bk) : sortB (bs ++ [x]) = insR x (sortB bs) := by simp [sortB, List.foldl_append]
theorem sortB_length : ∀ (n : Nat) (bs : List Bk), bs.length = n -> (sortB bs).length = n
  | 0, bs, h => by have := List.eq_nil_of_length_eq_zero h; subst this; rfl
  | n + 1, bs, h => by
    have hne : bs ≠ [] := by rintro rfl; simp at h
    rw [<- List.dropLast_concat_getLast hne, sortB_snoc, insR_length, sortB_length n _ (by simp [h])]
theorem sortB_same {bs : List Bk} (h : ∀ (r : Nat) (x y : Bk), bs[r]? = some y -> bs[r + 1]? = some x -> before x y = false) : ∀ k, sortB (bs.take k) = bs.take k
  | 0 => by simp [sortB]
  | k + 1 => by
    by_cases hk : k < bs.length
    · rw [List.take_succ_eq_append_getElem hk, sortB_snoc, sortB_same h k]
      have hl : (bs.take k).length = k := by simp; omega
      rw [insR_at (k := k) (by omega) (by rw [List.drop_eq_nil_of_le (by omega)]; simp) ?_]
      · rw [List.drop_eq_nil_of_le (by omega), List.take_of_length_le (by omega)]
      · intro r y e hy
        subst e
        rw [List.getElem?_take, if_pos (by omega)] at hy
        exact h r _ y hy (List.getElem?_eq_getElem hk)
    · rw [List.take_of_length_le (by omega)]
      have := sortB_same h k
      rwa [List.take_of_length_le (by omega)] at this

theorem l01Sort_ok {H : Heap} {u : Value} {bs : List Bk} (hu : BlocksAt H u bs) (hl : bs.length <= 1048576) (Post : Value -> Heap -> Prop)
    (h : ∀ H' w, H <+: H' -> BlocksIn H.length H'.length H' w (sortB bs) -> Post w H') : ACalls Tryz.prog 107 [u] H Post := by
  obtain ⟨i, o, rfl, h1, h2⟩ := hu
  refine ACalls.res ?_
  refine acalls_vc (rs := [.tmp 2]) Tryz.func107 rfl rfl Tryz.ntmps107 rfl rfl ?_
  simp (maxSteps := 1000000) [go_sem]
  refine AWp.loopVc (St := Nat × Nat) (fun s => [(0, lv 3 i o bs.length), (3, lv 3 s.2 0 s.1), (4, .int .i64 s.1)])
    (fun s H' => s.1 <= bs.length /\ Bl 3 H H' s.2 (tri (sortB (bs.take s.1))) s.1) (fun s => bs.length - s.1) (0, H.length) ?_ ?_ ?_
  · simp [upF, Fr.get, Up.refl, Up.ex0]
  · exact ⟨by simp, by simpa [sortB, tri] using Bl.nil 3 H⟩
  · rintro K ⟨s, id⟩ H' ⟨hs, hbl⟩ hK
    simp only at hs hbl
    by_cases hlt : s < bs.length
    · have hbs : bs[s]? = some bs[s] := List.getElem?_eq_getElem hlt
      have c1 := (h1.pre hbl.1).bk hbs
      have hw_s : IntKind.i64.wrap ((s : Int) + 1) = (s : Int) + 1 := i64w (by omega) (by omega)
      obtain ⟨hsrc, H4, hap, hbl4⟩ := hbl.push (xs := bs[s].cells) (by omega) rfl
      have hll : (sortB (bs.take s)).length = s := sortB_length s _ (by simp; omega)
      have hsn : sortB (bs.take (s + 1)) = insR bs[s] (sortB (bs.take s)) := by rw [List.take_succ_eq_append_getElem hlt, sortB_snoc]
      obtain ⟨l, hl0⟩ : ∃ l, l = sortB (bs.take s) := ⟨_, rfl⟩
      obtain ⟨x, hx⟩ : ∃ x, x = bs[s] := ⟨_, rfl⟩
      rw [<- hl0] at hll hsn hbl4
      rw [<- hx] at c1 hbs hsn hbl4 hap hsrc
      simp only [Bk.cells] at c1 hsrc hap
      have hid4 : H4[H'.length + 1]? = some ⟨tri (l ++ [x]), true, true⟩ := by
        rcases hbl4.2.1.2 with ⟨h0, _⟩ | hb
        · omega
        · rw [hb, tri_append, tri_one]
      have hge : H.length <= H'.length + 1 := hbl4.2.2
      simp (maxSteps := 1000000) [go_sem, hlt, c1, hsrc, hap]
      refine andK_intro (by omega) ?_
      obtain ⟨nid, hnid⟩ : ∃ nid, nid = H'.length + 1 := ⟨_, rfl⟩
      rw [<- hnid] at hid4 hge ⊢
      refine AWp.loopVc (St := Nat × List Bk) (fun t => [(0, lv 3 i o bs.length), (3, lv 3 nid 0 (s + 1)), (4, .int .i64 s), (5, .int .i64 t.1)])
        (fun t H2 => t.1 <= s /\ t.2.length = s + 1 /\ H <+: H2 /\ H2[nid]? = some ⟨tri t.2, true, true⟩ /\ t.2.take t.1 = l.take t.1 /\ t.2.drop (t.1 + 1) = l.drop t.1 /\ ∀ y ∈ l.drop t.1, before x y = true) (fun t => t.1) (s, l ++ [x]) ?_ ?_ ?_
      · simp [upF, Fr.get, Up.refl]
      · refine ⟨by simp, by simp [hll], hbl4.1, hid4, ?_, ?_, ?_⟩
        · simp only; rw [List.take_append_of_le_length (by omega)]
        · simp only; rw [List.drop_eq_nil_of_le (by simp; omega), List.drop_eq_nil_of_le (by omega)]
        · simp only; rw [List.drop_eq_nil_of_le (by omega)]; simp
      · rintro K2 ⟨at_, ys⟩ H2 ⟨hat, hyl, hp2, hb2, htk, hdr, hbf⟩ hK2
        simp only at hat hyl hp2 hb2 htk hdr hbf
        have cx := (h1.pre hp2).bk hbs
        simp only [Bk.cells] at cx
        have fin : ∀ (H3 : Heap) (fr : Fr), H2 <+: H3 -> (∀ (r : Nat) (y : Bk), at_ = r + 1 -> l[r]? = some y -> before x y = false) ->
            storeAt H3 nid (at_ * 3) x.cells = some (H3.set nid ⟨tri (ys.set at_ x), true, true⟩) /\ Bl 3 H (H3.set nid ⟨tri (ys.set at_ x), true, true⟩) nid (tri (sortB (bs.take (s + 1)))) (s + 1) := by
          intro H3 fr hp3 hstop
          have hb3 : H3[nid]? = some ⟨tri ys, true, true⟩ := pget hp3 hb2
          have hlt3 := (List.getElem?_eq_some_iff.1 hb3).1
          refine ⟨storeBk hb3 (by omega), ?_, ⟨?_, .inr ?_⟩, hge⟩
          · have hsame : Same (fun j => j = nid) H3 (H3.set nid ⟨tri (ys.set at_ x), true, true⟩) := ⟨by simp, fun j hj hS => List.getElem?_set_ne (fun e => hS e.symm)⟩
            exact ((Same.of_prefix (hp2.trans hp3)).trans hsame).prefix (by intro j hj e; omega)
          · rw [tri_length, sortB_length (s + 1) _ (by simp; omega)]
          · rw [List.getElem?_set_self hlt3, hsn, insR_at (k := at_) (by omega) hbf hstop]
            have e : ys.set at_ x = l.take at_ ++ x :: l.drop at_ := by
              rw [List.set_eq_take_append_cons_drop, if_pos (by omega), htk, hdr]
            rw [e]
        by_cases h0 : at_ = 0
        · subst h0
          obtain ⟨hst, hb5⟩ := fin H2 [] (List.prefix_refl _) (by intro r y e; omega)
          simp only [Bk.cells, Nat.zero_mul] at hst
          refine AWp.draw mixed [(0, false), (1, false), (2, false), (3, false), (4, false), (5, false), (6, false), (7, false), (8, false), (9, false), (10, false), (11, false), (12, false), (13, false)] (by kernel_rfl) ?_
          simp (maxSteps := 1000000) [go_sem, undef, hlt, cx, hst, hw_s]
          exact hK (s + 1, nid) _ _ (by simp only; omega) (by simp [upF, Fr.get, Up.refl]) ⟨by simp only; omega, hb5⟩
        · obtain ⟨r, rfl⟩ : ∃ r, at_ = r + 1 := ⟨at_ - 1, by omega⟩
          have hrl : r < l.length := by omega
          obtain ⟨y, hy⟩ : ∃ y, l[r]? = some y := ⟨l[r], List.getElem?_eq_getElem hrl⟩
          have hyr : ys[r]? = some y := by
            have := congrArg (fun z : List Bk => z[r]?) htk
            simp only [List.getElem?_take, if_pos (show r < r + 1 by omega)] at this
            rw [this]; exact hy
          have cy : ∀ {H3 : Heap}, H2 <+: H3 -> cellsAt H3 nid (r * 3) 3 = some [.int .i64 y.a, .int .i64 y.b, .int .i64 y.c] := by
            intro H3 hp3
            have hb3 : H3[nid]? = some ⟨tri ys, true, true⟩ := pget hp3 hb2
            have hat3 : At H3 nid 0 (tri ys) := Holds.at ⟨true, hb3⟩
            have := hat3.bk hyr
            simpa [Bk.cells] using this
          have cy2 := cy (List.prefix_refl H2)
          have hr1 : r < s + 1 := by omega
          have hr2 : r < s := by omega
          have hr3 : (r : Int) < (s : Int) + 1 := by omega
          have hr4 : (r : Int) < (s : Int) := by omega
          have hr5 : (0 : Int) < (r : Int) + 1 := by omega
          have hwr : IntKind.i64.wrap (r : Int) = (r : Int) := i64w (by omega) (by omega)
          refine AWp.draw mixed [(0, false), (1, false), (2, false), (3, false), (4, false), (5, false), (6, false), (7, false), (8, false), (9, false), (10, false), (11, false), (12, false), (13, false)] (by kernel_rfl) ?_
          simp (maxSteps := 1000000) [go_sem, hlt, cx, cy2, hr1, hr2, hr3, hr4, hr5, hwr]
          refine l01Before_ok (b := x) (d := y) _ ?_
          intro H3 hp3
          cases hbxy : before x y with
          | false =>
            obtain ⟨hst, hb5⟩ := fin H3 [] hp3 (by
              intro r' y' e hy'
              have : r' = r := by omega
              subst this; rw [hy] at hy'; cases hy'; exact hbxy)
            simp only [Bk.cells] at hst
            have cx3 := (h1.pre (hp2.trans hp3)).bk hbs
            simp only [Bk.cells] at cx3
            simp (maxSteps := 1000000) [go_sem, hp3, hlt, cx3, hst, hw_s, hr1, hr2, hr3, hr4]
            exact andK_intro (by omega) (hK (s + 1, nid) _ _ (by simp only; omega) (by simp [upF, Fr.get, Up.refl]) ⟨by simp only; omega, hb5⟩)
          | true =>
            have hb3 : H3[nid]? = some ⟨tri ys, true, true⟩ := pget hp3 hb2
            have hlt3 := (List.getElem?_eq_some_iff.1 hb3).1
            have hst := storeBk (b := y) (s := r + 1) hb3 (by omega)
            simp only [Bk.cells] at hst
            have cy3 := cy hp3
            simp (maxSteps := 1000000) [go_sem, hp3, cy3, hst, hwr, hr1, hr2, hr3, hr4]
            refine andK_intro (by omega) (hK2 (r, ys.set (r + 1) y) _ _ (by simp only; omega) (by simp [upF, Fr.get, Up.refl]) ⟨by simp only; omega, by simp [hyl], ?_, ?_, ?_, ?_, ?_⟩)
            · have hsame : Same (fun j => j = nid) H3 (H3.set nid ⟨tri (ys.set (r + 1) y), true, true⟩) := ⟨by simp, fun j hj hS => List.getElem?_set_ne (fun e => hS e.symm)⟩
              exact ((Same.of_prefix (hp2.trans hp3)).trans hsame).prefix (by intro j hj e; omega)
            · simp only; rw [List.getElem?_set_self hlt3]
            · simp only
              have := congrArg (List.take r) htk
              rw [List.take_take, List.take_take, Nat.min_eq_left (by omega)] at this
              rw [List.take_set_of_le (by omega)]; exact this
            · simp only
              rw [List.drop_eq_getElem_cons (by simp; omega), List.getElem_set_self, List.drop_set_of_lt (by omega), hdr]
              rw [List.drop_eq_getElem_cons hrl]
              congr 1
              rw [List.getElem?_eq_getElem hrl] at hy; exact (Option.some.inj hy).symm
            · simp only
              intro z hz
              rw [List.drop_eq_getElem_cons hrl] at hz
              rcases List.mem_cons.1 hz with rfl | hz
              · rw [List.getElem?_eq_getElem hrl] at hy; rw [Option.some.inj hy]; exact hbxy
              · exact hbf z hz
    · have : s = bs.length := by omega
      subst this
      simp (maxSteps := 1000000) [go_sem]
      rw [List.take_length] at hbl
      refine ⟨_, Up.refl _ _, h H' _ hbl.1 ?_⟩
      have hsl := sortB_length bs.length bs rfl
      have := OwnBlocks.inn (OwnBlocks.of_ol (bs := sortB bs) (by rw [hsl]; exact hbl.2.1) (by omega)) hbl.2.2
      rwa [hsl] at this

end Go.Proofs.YtfnegaedkomcgaaGreat
end

section
namespace Go.Proofs.YtfnegaedkomcgaaGreat
open Go.Ab

def plc : List Int -> Int -> Int
  | [], _ => -1
  | x :: xs, q => if x = q then 0 else (if plc xs q = -1 then -1 else plc xs q + 1)
theorem plc_ge : ∀ (xs : List Int) (q : Int), -1 <= plc xs q
  | [], _ => by simp [plc]
  | x :: xs, q => by have := plc_ge xs q; simp only [plc]; split; omega; split <;> omega
theorem plc_none : ∀ {xs : List Int} {q : Int}, (∀ x ∈ xs, x ≠ q) -> plc xs q = -1
  | [], _, _ => rfl
  | x :: xs, q, h => by
    simp only [plc, if_neg (h x List.mem_cons_self), plc_none fun y hy => h y (List.mem_cons_of_mem _ hy), if_true]
theorem plc_at : ∀ {xs : List Int} {q : Int} {k : Nat}, xs[k]? = some q -> (∀ y ∈ xs.take k, y ≠ q) -> plc xs q = k
  | [], _, _, h, _ => by simp at h
  | x :: xs, q, 0, h, _ => by simp at h; simp [plc, h]
  | x :: xs, q, k + 1, h, hn => by
    have h1 : x ≠ q := hn x (by simp)
    have h2 := plc_at (xs := xs) (q := q) (k := k) (by simpa using h) fun y hy => hn y (by simp [hy])
    simp only [plc, if_neg h1, h2]
    rw [if_neg (by omega)]; rfl
theorem plc_get : ∀ {xs : List Int} {q : Int}, 0 <= plc xs q -> xs[(plc xs q).toNat]? = some q
  | [], _, h => by simp [plc] at h
  | x :: xs, q, h => by
    simp only [plc] at h ⊢
    split
    · rename_i e; simp [e]
    · rename_i e
      simp only [if_neg e] at h
      split at h
      · omega
      · rename_i e2
        rw [if_neg e2]
        have := plc_ge xs q
        have h3 : 0 <= plc xs q := by omega
        rw [show (plc xs q + 1).toNat = (plc xs q).toNat + 1 by omega, List.getElem?_cons_succ]
        exact plc_get h3

def onB (xs : List Int) (bs : List Bk) : List Bk :=
  bs.flatMap fun b => if decide (0 <= plc xs b.a) && (decide (0 <= plc xs b.b) && decide (0 <= plc xs b.c)) then [⟨plc xs b.a, plc xs b.b, plc xs b.c⟩] else []
theorem onB_snoc (xs : List Int) (bs : List Bk) (b : Bk) : onB xs (bs ++ [b]) = onB xs bs ++ (if decide (0 <= plc xs b.a) && (decide (0 <= plc xs b.b) && decide (0 <= plc xs b.c)) then [⟨plc xs b.a, plc xs b.b, plc xs b.c⟩] else []) := by simp [onB]
theorem onB_length (xs : List Int) (bs : List Bk) : (onB xs bs).length <= bs.length := by
  induction bs with
  | nil => simp [onB]
  | cons b bs ih =>
    have : (onB xs (b :: bs)).length = (if decide (0 <= plc xs b.a) && (decide (0 <= plc xs b.b) && decide (0 <= plc xs b.c)) then [(⟨plc xs b.a, plc xs b.b, plc xs b.c⟩ : Bk)] else []).length + (onB xs bs).length := by simp [onB]
    rw [this, List.length_cons]
    split <;> simp <;> omega

def Asc (bs : List Bk) : Prop := bs.Pairwise fun x y => before x y = true
theorem before_iff {x y : Bk} : before x y = true ↔ x.a < y.a \/ (x.a = y.a /\ (x.b < y.b \/ (x.b = y.b /\ x.c < y.c))) := by
  unfold before
  by_cases h1 : x.a = y.a
  · by_cases h2 : x.b = y.b
    · simp [h1, h2]
    · simp [h1, h2]
  · simp [h1]
theorem before_trans {x y z : Bk} (h1 : before x y = true) (h2 : before y z = true) : before x z = true := by
  rw [before_iff] at *; omega
theorem before_asymm {x y : Bk} (h1 : before x y = true) : before y x = false := by
  cases h : before y x with
  | false => rfl
  | true => rw [before_iff] at h h1; omega
theorem asc_of {p : Int} : ∀ (n : Nat) {bs : List Bk}, bs.length = n -> Sorted p bs -> Asc bs
  | 0, bs, hn, _ => by rw [List.eq_nil_of_length_eq_zero hn]; exact List.Pairwise.nil
  | n + 1, bs, hn, hs => by
    have hne : bs ≠ [] := by rintro rfl; simp at hn
    obtain ⟨l, x, rfl⟩ : ∃ l x, bs = l ++ [x] := ⟨bs.dropLast, bs.getLast hne, (List.dropLast_concat_getLast hne).symm⟩
    have hl : l.length = n := by simpa using hn
    have ih : Asc l := asc_of n hl fun i y hy => by
      have hi := (List.getElem?_eq_some_iff.1 hy).1
      have := hs i y (by rw [List.getElem?_append_left hi]; exact hy)
      exact ⟨this.1, fun z h0 hz => this.2 z h0 (by rw [List.getElem?_append_left (by omega)]; exact hz)⟩
    refine List.pairwise_append.2 ⟨ih, List.pairwise_singleton _ _, ?_⟩
    intro y hy z hz
    simp at hz; subst hz
    have hlast := hs l.length z (by simp)
    by_cases h0 : l = []
    · subst h0; simp at hy
    · obtain ⟨l', w, rfl⟩ : ∃ l' w, l = l' ++ [w] := ⟨l.dropLast, l.getLast h0, (List.dropLast_concat_getLast h0).symm⟩
      have hw := hlast.2 w (by simp) (by simp)
      rcases List.mem_append.1 hy with hy | hy
      · exact before_trans ((List.pairwise_append.1 ih).2.2 y hy w (by simp)) hw
      · simp at hy; subst hy; exact hw
theorem rises_lt {p : Int} {xs : List Int} (h : Rises p xs) : ∀ (k j : Nat) (x y : Int), j < k -> xs[k]? = some x -> xs[j]? = some y -> y < x
  | 0, j, _, _, hj, _, _ => by omega
  | k + 1, j, x, y, hj, hx, hy => by
    have hk := (List.getElem?_eq_some_iff.1 hx).1
    have h2 : xs[k]? = some (xs[k]'(by omega)) := List.getElem?_eq_getElem _
    have h1 := (h (k + 1) x hx).2 _ (by omega) (by rw [Nat.add_sub_cancel]; exact h2)
    by_cases e : j = k
    · subst e; rw [hy] at h2; rw [Option.some.inj h2]; exact h1
    · have := rises_lt h k j _ y (by omega) h2 hy; omega
theorem plc_lt {p : Int} {xs : List Int} (h : Rises p xs) {q r : Int} (hq : 0 <= plc xs q) (hr : 0 <= plc xs r) (hqr : q < r) : plc xs q < plc xs r := by
  have h1 := plc_get hq
  have h2 := plc_get hr
  rcases Nat.lt_trichotomy (plc xs q).toNat (plc xs r).toNat with h3 | h3 | h3
  · omega
  · rw [h3, h2] at h1; have := Option.some.inj h1; omega
  · have := rises_lt h _ _ _ _ h3 h1 h2; omega
theorem onB_asc {p : Int} {xs : List Int} {bs : List Bk} (h : Rises p xs) (ha : Asc bs) : Asc (onB xs bs) := by
  induction bs with
  | nil => exact List.Pairwise.nil
  | cons b bs ih =>
    have ha' := List.pairwise_cons.1 ha
    have e : onB xs (b :: bs) = (if decide (0 <= plc xs b.a) && (decide (0 <= plc xs b.b) && decide (0 <= plc xs b.c)) then [(⟨plc xs b.a, plc xs b.b, plc xs b.c⟩ : Bk)] else []) ++ onB xs bs := by simp [onB]
    rw [e]
    split
    · rename_i hb
      simp only [Bool.and_eq_true, decide_eq_true_eq] at hb
      refine List.pairwise_cons.2 ⟨?_, ih ha'.2⟩
      intro y hy
      obtain ⟨d, hd, hy⟩ := List.mem_flatMap.1 (show y ∈ bs.flatMap _ from hy)
      split at hy
      · rename_i hd'
        simp only [Bool.and_eq_true, decide_eq_true_eq] at hd'
        simp at hy; subst hy
        have hbd := before_iff.1 (ha'.1 d hd)
        rw [before_iff]
        simp only
        rcases hbd with h1 | ⟨h1, h2 | ⟨h2, h3⟩⟩
        · exact .inl (plc_lt h hb.1 hd'.1 h1)
        · exact .inr ⟨by rw [h1], .inl (plc_lt h hb.2.1 hd'.2.1 h2)⟩
        · exact .inr ⟨by rw [h1], .inr ⟨by rw [h2], plc_lt h hb.2.2 hd'.2.2 h3⟩⟩
      · simp at hy
    · simpa using ih ha'.2
theorem sortB_asc {bs : List Bk} (h : Asc bs) : sortB bs = bs := by
  have := sortB_same (bs := bs) (fun r x y hy hx => ?_) bs.length
  · rwa [List.take_of_length_le (Nat.le_refl _)] at this
  · obtain ⟨h1, rfl⟩ := List.getElem?_eq_some_iff.1 hy
    obtain ⟨h2, rfl⟩ := List.getElem?_eq_some_iff.1 hx
    exact before_asymm (List.pairwise_iff_getElem.1 h r (r + 1) h1 h2 (by omega))

noncomputable def rOn (p : Int) (bs : List Bk) (xs : List Int) : (Int × List Bk) × Int :=
  if setCode p bs xs = 0 then (if 3 <= xs.length then ((xs.length, onB xs bs), 0) else ((0, []), 2)) else ((0, []), setCode p bs xs)

theorem l01Place_ok {H : Heap} {v : Value} {xs : List Int} {q : Int} (hv : IntsAt H v xs) (Post : Value -> Heap -> Prop) (h : Post (.int .i64 (plc xs q)) H) : ACalls Tryz.prog 119 [v, .int .i64 q] H Post := by
  obtain ⟨i, o, rfl, h1, h2⟩ := hv
  refine acalls_vc (rs := [.tmp 4]) Tryz.func119 rfl rfl Tryz.ntmps119 rfl rfl ?_
  simp (maxSteps := 1000000) [go_sem]
  refine AWp.loopVc (fun s : Nat => [(0, lv 1 i o xs.length), (1, .int .i64 q), (5, .int .i64 s)])
    (fun s H' => s <= xs.length /\ H' = H /\ ∀ y ∈ xs.take s, y ≠ q) (fun s => xs.length - s) 0 ?_ ?_ ?_
  · simp [upF, Fr.get, Up.refl]
  · exact ⟨by omega, rfl, by simp⟩
  · rintro K s H' ⟨hs, rfl, hall⟩ hK
    by_cases hlt : s < xs.length
    · have hx : xs[s]? = some xs[s] := List.getElem?_eq_getElem hlt
      have c1 := h1.cell (k := s) (v := .int .i64 xs[s]) (by simp [ints_get, hlt])
      have hw_s : IntKind.i64.wrap ((s : Int) + 1) = (s : Int) + 1 := i64w (by omega) (by omega)
      by_cases he : xs[s] = q
      · have e : (xs[s] == q) = true := by simpa using he
        simp (maxSteps := 1000000) [go_sem, hlt, c1, e]
        rwa [plc_at (k := s) (by rw [hx, he]) hall] at h
      · have e : (xs[s] == q) = false := by simpa using he
        simp (maxSteps := 1000000) [go_sem, hlt, c1, e, hw_s]
        refine hK (s + 1) _ _ (by omega) (by simp [upF, Fr.get, Up.refl]) ⟨by omega, rfl, ?_⟩
        intro y hy
        rw [List.take_succ_eq_append_getElem hlt, List.mem_append] at hy
        rcases hy with hy | hy
        · exact hall y hy
        · simp at hy; subst hy; exact he
    · have : s = xs.length := by omega
      subst this
      rw [List.take_length] at hall
      simp (maxSteps := 1000000) [go_sem]
      rwa [plc_none hall] at h

theorem l01Made_ok {H : Heap} {u : Value} {v : Int} {bs : List Bk} (hu : BlocksAt H u bs) (hl : bs.length <= 1048576) (Post : Value -> Heap -> Prop)
    (h : ∀ H' w, H <+: H' -> BlocksIn H.length H'.length H' w (sortB bs) -> Post (sysV v w) H') : ACalls Tryz.prog 56 [.int .i64 v, u] H Post := by
  refine acalls_vc (rs := [.cell 4 26]) Tryz.func56 rfl rfl Tryz.ntmps56 rfl rfl ?_
  simp (maxSteps := 1000000) [go_sem, hu.one]
  have hp0 : H <+: H ++ [⟨[.int .i64 0, .slice none 0 0], true, true⟩] := List.prefix_append _ _
  have hb0 : (H ++ [(⟨[.int .i64 0, .slice none 0 0], true, true⟩ : Blk)])[H.length]? = some ⟨[.int .i64 0, .slice none 0 0], true, true⟩ := by simp
  generalize H ++ [(⟨[.int .i64 0, .slice none 0 0], true, true⟩ : Blk)] = H0 at hp0 hb0 ⊢
  refine l01Sort_ok (hu.pre hp0) hl _ ?_
  intro H1 w hp1 hw
  have hb1 := pget hp1 hb0
  have hlt := (List.getElem?_eq_some_iff.1 hb1).1
  obtain ⟨id, rfl⟩ : ∃ id, w = lv 3 id 0 (sortB bs).length := by obtain ⟨id, h, _⟩ := hw; exact ⟨id, h.1⟩
  have ho := hw.one
  have hst : storeAt H1 H.length 0 [.int .i64 v, lv 3 id 0 (sortB bs).length] = some (H1.set H.length ⟨[.int .i64 v, lv 3 id 0 (sortB bs).length], true, true⟩) := by
    rw [storeAt_of hb1 rfl rfl (by simp) (by simp [Value.oneCell'])]; simp [over]
  have hld : cellsAt (H1.set H.length ⟨[.int .i64 v, lv 3 id 0 (sortB bs).length], true, true⟩) H.length 0 2 = some [.int .i64 v, lv 3 id 0 (sortB bs).length] := by
    have := Holds.cells (n := 2) (o := 0) (H := H1.set H.length ⟨[.int .i64 v, lv 3 id 0 (sortB bs).length], true, true⟩) ⟨true, List.getElem?_set_self hlt⟩ (by simp)
    rw [this]; rfl
  simp (maxSteps := 1000000) [go_sem, ho, hst, hld]
  have hsame : Same (fun j => j = H.length) H1 (H1.set H.length ⟨[.int .i64 v, lv 3 id 0 (sortB bs).length], true, true⟩) := ⟨by simp, fun j hj hS => List.getElem?_set_ne (fun e => hS e.symm)⟩
  have hle0 := hp0.length_le
  have hlt0 := (List.getElem?_eq_some_iff.1 hb0).1
  have := h (H1.set H.length ⟨[.int .i64 v, lv 3 id 0 (sortB bs).length], true, true⟩) _ (((Same.of_prefix (hp0.trans hp1)).trans hsame).prefix (by intro j hj e; omega))
    (by
      have := (hw.keep hsame (by rintro j ⟨h1, h2⟩ e; omega)).wider hle0
      rwa [List.length_set])
  exact this

end Go.Proofs.YtfnegaedkomcgaaGreat
end

section
namespace Go.Proofs.YtfnegaedkomcgaaGreat
open Go.Ab Go.Sort

theorem before_false {x y : Bk} : before x y = false ↔ ¬ (x.a < y.a \/ (x.a = y.a /\ (x.b < y.b \/ (x.b = y.b /\ x.c < y.c)))) := by rw [<- before_iff]; simp
theorem swoB : SWO before := by
  refine ⟨fun x => ?_, fun x y z h1 h2 => before_trans h1 h2, fun x y z h1 h2 => ?_⟩
  · rw [before_false]; omega
  · rw [before_false] at *; omega
theorem insRev_perm (x : Bk) : ∀ l : List Bk, (insRev x l).Perm (x :: l)
  | [] => List.Perm.refl _
  | y :: l => by
    simp only [insRev]
    split
    · exact ((insRev_perm x l).cons y).trans (List.Perm.swap x y l)
    · exact List.Perm.refl _
theorem insR_perm (x : Bk) (l : List Bk) : (insR x l).Perm (x :: l) := by
  unfold insR
  exact ((List.reverse_perm _).trans (insRev_perm x _)).trans ((List.reverse_perm l).cons x)
theorem sortB_perm : ∀ (n : Nat) (bs : List Bk), bs.length = n -> (sortB bs).Perm bs
  | 0, bs, h => by have := List.eq_nil_of_length_eq_zero h; subst this; exact List.Perm.refl _
  | n + 1, bs, h => by
    have hne : bs ≠ [] := by rintro rfl; simp at h
    have e := List.dropLast_concat_getLast hne
    rw [<- e, sortB_snoc]
    refine (insR_perm _ _).trans ?_
    refine ((sortB_perm n _ (by simp [h])).cons _).trans ?_
    exact (List.perm_append_singleton _ _).symm
theorem insRev_sorted (x : Bk) : ∀ {l : List Bk}, l.Pairwise (fun a b => before a b = false) -> (insRev x l).Pairwise (fun a b => before a b = false)
  | [], _ => by simp [insRev]
  | y :: l, h => by
    rw [List.pairwise_cons] at h
    simp only [insRev]
    split
    · rename_i hb
      rw [List.pairwise_cons]
      refine ⟨fun z hz => ?_, insRev_sorted x h.2⟩
      rcases List.mem_cons.1 ((insRev_perm x l).mem_iff.1 hz) with rfl | hz
      · exact before_asymm hb
      · exact h.1 z hz
    · rename_i hb
      have hb : before x y = false := by simpa using hb
      rw [List.pairwise_cons]
      refine ⟨fun z hz => ?_, List.pairwise_cons.2 h⟩
      rcases List.mem_cons.1 hz with rfl | hz
      · exact hb
      · exact swoB.ntrans _ _ _ hb (h.1 z hz)
theorem insR_sorted (x : Bk) {l : List Bk} (h : l.Pairwise (fun a b => before b a = false)) : (insR x l).Pairwise (fun a b => before b a = false) := by
  unfold insR
  rw [List.pairwise_reverse]
  exact insRev_sorted x (List.pairwise_reverse.2 h)
theorem sortB_sorted : ∀ (n : Nat) (bs : List Bk), bs.length = n -> (sortB bs).Pairwise (fun a b => before b a = false)
  | 0, bs, h => by have := List.eq_nil_of_length_eq_zero h; subst this; exact List.Pairwise.nil
  | n + 1, bs, h => by
    have hne : bs ≠ [] := by rintro rfl; simp at h
    rw [<- List.dropLast_concat_getLast hne, sortB_snoc]
    exact insR_sorted _ (sortB_sorted n _ (by simp [h]))
theorem sort_uniq {bs l : List Bk} (hp : l.Perm bs) (hs : l.Pairwise (fun x y => before y x = false)) : l = sortB bs := by
  refine (hp.trans (sortB_perm _ bs rfl).symm).eq_of_pairwise ?_ hs (sortB_sorted _ bs rfl)
  intro x y _ _ h1 h2
  rw [before_false] at h1 h2
  rw [Bk.eq3]; omega

end Go.Proofs.YtfnegaedkomcgaaGreat
end

section
namespace Go.Proofs.YtfnegaedkomcgaaGreat
open Go.Ab Go.Sort

def ltI (x y : Int) : Bool := decide (x < y)
theorem swoI : SWO ltI := by
  refine ⟨fun x => ?_, fun x y z h1 h2 => ?_, fun x y z h1 h2 => ?_⟩ <;> simp only [ltI, decide_eq_true_eq, decide_eq_false_iff_not] at * <;> omega
def AscI (l : List Int) : Prop := l.Pairwise (fun x y => ltI y x = false)
theorem AscI.get {l : List Int} (h : AscI l) {i j : Nat} (hi : i < l.length) (hj : j < l.length) (hij : i < j) : l[i] <= l[j] := by
  have := List.pairwise_iff_getElem.1 h i j hi hj hij
  simp only [ltI, decide_eq_false_iff_not] at this; omega
theorem int_uniq {l m : List Int} (hp : l.Perm m) (h1 : AscI l) (h2 : AscI m) : l = m :=
  hp.eq_of_pairwise (by intro x y _ _ a b; simp only [ltI, decide_eq_false_iff_not] at a b; omega) h1 h2

def blk (a b c : Int) : Bk := ⟨min a (min b c), a + b + c - min a (min b c) - max a (max b c), max a (max b c)⟩
def Bk.list (b : Bk) : List Int := [b.a, b.b, b.c]
theorem perm3 {a b c x y z : Int} (h : (x = a /\ y = b /\ z = c) \/ (x = a /\ y = c /\ z = b) \/ (x = b /\ y = a /\ z = c) \/ (x = b /\ y = c /\ z = a) \/ (x = c /\ y = a /\ z = b) \/ (x = c /\ y = b /\ z = a)) : [x, y, z].Perm [a, b, c] := by
  rw [List.perm_iff_count]
  intro t
  simp only [List.count_cons, List.count_nil]
  rcases h with ⟨rfl, rfl, rfl⟩ | ⟨rfl, rfl, rfl⟩ | ⟨rfl, rfl, rfl⟩ | ⟨rfl, rfl, rfl⟩ | ⟨rfl, rfl, rfl⟩ | ⟨rfl, rfl, rfl⟩ <;> omega
theorem blk_perm (a b c : Int) : (Bk.list (blk a b c)).Perm [a, b, c] := by
  unfold Bk.list blk
  apply perm3
  simp only
  omega
theorem blk_asc (a b c : Int) : AscI (Bk.list (blk a b c)) := by
  unfold AscI Bk.list blk
  simp only [List.pairwise_cons, List.mem_cons, List.not_mem_nil, or_false, ltI, decide_eq_false_iff_not]
  refine ⟨?_, ?_, ?_, List.Pairwise.nil⟩
  · rintro y (rfl | rfl) <;> omega
  · rintro y rfl; omega
  · rintro y h; exact h.elim
theorem blk_sorted {a b c : Int} {l : List Int} (hp : l.Perm [a, b, c]) (hs : AscI l) : l = Bk.list (blk a b c) :=
  int_uniq (hp.trans (blk_perm a b c).symm) hs (blk_asc a b c)
theorem blk_good {v a b c : Int} : good v (blk a b c) = true ↔ (0 <= a /\ a < v) /\ (0 <= b /\ b < v) /\ (0 <= c /\ c < v) /\ a ≠ b /\ b ≠ c /\ c ≠ a := by
  rw [good_iff, blk]; simp only; omega

def OrdL (n : Int) (xs : List Int) : Prop := (xs.length : Int) = n /\ xs.Nodup /\ ∀ x ∈ xs, 0 <= x /\ x < n
theorem rises_sorted {n : Int} {xs l : List Int} (hp : l.Perm xs) (hs : AscI l) : Rises n l ↔ xs.Nodup /\ ∀ x ∈ xs, 0 <= x /\ x < n := by
  constructor
  · intro h
    have hlt : ∀ (j : Nat) (hj : j + 1 < l.length), l[j] < l[j + 1] := fun j hj =>
      (h (j + 1) l[j + 1] (List.getElem?_eq_getElem hj)).2 l[j] (by omega) (by simp only [Nat.add_sub_cancel]; exact List.getElem?_eq_getElem (by omega))
    refine ⟨hp.nodup_iff.1 ?_, fun x hx => ?_⟩
    · rw [List.Nodup, List.pairwise_iff_getElem]
      intro i j hi hj hij e
      obtain ⟨k, rfl⟩ : ∃ k, j = k + 1 := ⟨j - 1, by omega⟩
      have h1 := hlt k hj
      by_cases hk : i = k
      · subst hk; omega
      · have h2 := hs.get hi (by omega : k < l.length) (by omega)
        omega
    · obtain ⟨i, hi, rfl⟩ := List.mem_iff_getElem.1 (hp.mem_iff.2 hx)
      exact (h i _ (List.getElem?_eq_getElem hi)).1
  · rintro ⟨h1, h2⟩ a x hx
    obtain ⟨ha, rfl⟩ := List.getElem?_eq_some_iff.1 hx
    refine ⟨h2 _ (hp.mem_iff.1 (List.getElem_mem ha)), fun y hy hxy => ?_⟩
    obtain ⟨hb, rfl⟩ := List.getElem?_eq_some_iff.1 hxy
    have h3 := hs.get hb ha (by omega)
    have h4 := hp.nodup_iff.2 h1
    rw [List.Nodup, List.pairwise_iff_getElem] at h4
    have := h4 (a - 1) a hb ha (by omega)
    omega

def upI (n : Nat) : List Int := (List.range n).map fun k : Nat => (k : Int)
theorem mem_upI {n : Nat} {x : Int} : x ∈ upI n ↔ 0 <= x /\ x < n := by
  simp only [upI, List.mem_map, List.mem_range]
  constructor
  · rintro ⟨k, hk, rfl⟩; omega
  · intro h; exact ⟨x.toNat, by omega, by omega⟩
theorem upI_length (n : Nat) : (upI n).length = n := by simp [upI]
end Go.Proofs.YtfnegaedkomcgaaGreat
end

section
namespace Go.Proofs.YtfnegaedkomcgaaGreat
open Go.Ab

def shBytes : Shape := ⟨22, false, cSl 1 (cInt .u8)⟩
theorem fits_shBytes {D : Type} {enc : TypeId × Value -> D} (W : World) : shBytes.fits enc Tryz.prog W :=
  ⟨cSl_stable (cInt_stable _), open_cSl Tryz.underlying22 (by kernel_rfl) (by omega) (cInt_stable _) (open_cInt Tryz.underlying5), by show (match Tryz.prog.underlying 22 with | _ => _); rw [Tryz.underlying22]; rfl⟩
def BytesAt0 (H : Heap) (v : Value) (xs : List Int) : Prop := ∃ i o, v = lv 1 i o xs.length /\ At H i o (u8s xs) /\ xs.length <= 9223372036854775807 /\ ∀ x ∈ xs, 0 <= x /\ x < 256
theorem BytesAt0.short {H : Heap} {v : Value} {xs : List Int} (h : BytesAt0 H v xs) (hl : xs.length <= 4096) : BytesAt H v xs := by
  obtain ⟨i, o, h1, h2, h3, h4⟩ := h
  exact ⟨i, o, h1, h2, by omega, h4⟩
theorem u8s_of {H : Heap} : ∀ {es : List (List Value)}, (∀ e ∈ es, cInt .u8 H e /\ e.length = 1) -> ∃ xs : List Int, es.flatten = u8s xs /\ xs.length = es.length /\ ∀ x ∈ xs, 0 <= x /\ x < 256
  | [], _ => ⟨[], rfl, rfl, by simp⟩
  | e :: es, h => by
    obtain ⟨xs, h1, h2, h3⟩ := u8s_of (es := es) fun e he => h e (List.mem_cons_of_mem _ he)
    obtain ⟨⟨n, rfl, hw⟩, _⟩ := h e List.mem_cons_self
    have hn : 0 <= n /\ n < 256 := by
      simp only [Lit.wf, Bool.and_eq_true, decide_eq_true_eq] at hw
      have e1 : IntKind.u8.min = 0 := rfl
      have e2 : IntKind.u8.max = 255 := rfl
      rw [e1, e2] at hw
      omega
    refine ⟨n :: xs, by simp [u8s, h1], by simp [h2], fun x hx => ?_⟩
    rcases List.mem_cons.1 hx with rfl | hx
    · exact hn
    · exact h3 x hx
theorem says_shBytes {H : Heap} {v : Value} (h : shBytes.says H v) : ∃ xs, BytesAt0 H v xs := by
  obtain ⟨id, es, h1, h2, h3, h4⟩ := h
  simp only [List.cons.injEq, and_true] at h1
  obtain ⟨xs, h5, h6, h7⟩ := u8s_of h3
  refine ⟨xs, id, 0, by rw [h1, h6], ?_, by rw [h6]; exact h4, h7⟩
  rcases h2 with rfl | h2
  · left; rw [<- h5]; rfl
  · right; rw [<- h5, show es.flatten.length = es.length * 1 by rw [h5, u8s_len, h6]; omega]; exact h2
theorem big_ok {H : Heap} {u : Value} {xs : List Int} (hu : BytesAt0 H u xs) (Post : Value -> Heap -> Prop) (h : Post (.bool (decide (4096 < xs.length))) H) : ACalls Tryz.prog 6 [u] H Post := by
  obtain ⟨i, o, rfl, h1, h2, h3⟩ := hu
  refine acalls_vc (rs := [.tmp 2]) Tryz.func6 rfl rfl Tryz.ntmps6 rfl rfl ?_
  simp (maxSteps := 1000000) [go_sem]
  have e : decide ((4096 : Int) < xs.length) = decide (4096 < xs.length) := by
    apply Bool.eq_iff_iff.2
    simp; omega
  try rw [e]
  exact h

end Go.Proofs.YtfnegaedkomcgaaGreat
end

section
namespace Go.Proofs.YtfnegaedkomcgaaGreat
open Go.Ab

theorem from_ok {H : Heap} {u : Value} {xs : List Int} (hu : BytesAt H u xs) (Post : Value -> Heap -> Prop)
    (h : ∀ (H' : Heap), H <+: H' -> H'.length = H.length + 1 -> Src H.length H.length H' -> Post (.pointer (some ⟨H.length, 0, none⟩)) H') :
    ACalls Tryz.prog 44 [u] H Post := by
  obtain ⟨i, o, rfl, h1, h2, h3⟩ := hu
  have hil : xs ≠ [] -> i < H.length := by
    intro hne
    rcases h1 with h1 | h1
    · cases xs with
      | nil => exact absurd rfl hne
      | cons x xs => simp [u8s] at h1
    · obtain ⟨b, hb, _⟩ := cellsAt_inv h1
      exact (List.getElem?_eq_some_iff.1 hb).1
  refine acalls_vc (rs := [.tmp 2]) Tryz.func44 rfl rfl Tryz.ntmps44 rfl rfl ?_
  have wl : IntKind.u64.wrap (xs.length : Int) = xs.length := by rw [IntKind.wrap_u64]; omega
  simp (maxSteps := 1000000) [go_sem, wl]
  refine AWp.loopVc (St := Nat) (fun k => [(0, lv 1 i o xs.length), (3, .pointer (some ⟨H.length, 0, none⟩)), (4, .int .i64 k)])
    (fun k H' => k <= xs.length /\ k <= 4096 /\ H'.length = H.length + 1 /\ H <+: H' /\ ∃ z : Int, H'[H.length]? = some ⟨[lv 1 i o xs.length, .int .i64 0, .int .u64 z], true, true⟩) (fun k => xs.length - k) 0 ?_ ?_ ?_
  · simp [upF, Fr.get, Up.refl]
  · exact ⟨by omega, by omega, by simp, List.prefix_append _ _, IntKind.u64.wrap (13551 + (xs.length : Int)), by simp⟩
  · rintro K k H' ⟨hk, hk2, hlen, hp, z, hz⟩ hK
    have hlt := (List.getElem?_eq_some_iff.1 hz).1
    obtain ⟨c0, c1, c2, t2, t1⟩ := src_facts hz
    have at1 := h1.pre hp
    have fin := h H' hp hlen ⟨Nat.le_refl _, i, o, xs, 0, z, hz, at1, hil, h2, h3, by omega, by omega⟩
    by_cases hlt1 : k < xs.length
    · by_cases hlt2 : k < 4096
      · have eb : cellsAt H' i (o + k) 1 = some [.int .u8 xs[k]] := at1.cell (u8s_get hlt1)
        have hb := h3 xs[k] (List.getElem_mem hlt1)
        generalize xs[k] = b at *
        have wb : IntKind.u64.wrap b = b := by rw [IntKind.wrap_u64]; omega
        have hlt2' : (k : Int) < 4096 := by omega
        have hw_k : IntKind.i64.wrap ((k : Int) + 1) = (k : Int) + 1 := i64w (by omega) (by omega)
        simp (maxSteps := 1000000) [go_sem, hlt1, hlt2, hlt2']
        refine AWp.draw mixed [(0, false), (1, false), (2, false), (3, false), (4, false), (5, false), (6, false), (7, false), (8, false), (9, false), (10, false), (11, false), (12, false), (13, false), (14, false), (15, false)] (by kernel_rfl) ?_
        simp (maxSteps := 1000000) [go_sem, hlt1, c2, eb, wb, t2, hw_k]
        refine hK (k + 1) _ _ (by omega) (by simp [upF, Fr.get, Up.refl]) ⟨by omega, by omega, by simp [hlen], ?_, _, List.getElem?_set_self hlt⟩
        exact Same.prefix ((Same.of_prefix (S := fun j => j = H.length) hp).trans same_set) (by omega)
      · have hlt2' : ¬ (k : Int) < 4096 := by omega
        simp (maxSteps := 1000000) [go_sem, undef, hlt1, hlt2, hlt2']
        exact fin
    · simp (maxSteps := 1000000) [go_sem, undef, hlt1]
      exact fin

end Go.Proofs.YtfnegaedkomcgaaGreat
end

section
namespace Go.Ab
open Go.RowKit (Below)

def pairOKF (ops : Array Oper) (fs : List Nat) (ms : List Nat) (x y : Nat × Bool) : Bool :=
  match ops[x.1]?, ops[y.1]? with
  | some p, some q =>
    let d := (ms.getD y.1 0).testBit x.1
    !directTo p y.1 && x.1 != y.1 &&
    (match isR p.op with
     | true => (d || indep ops p q) && (isR q.op || y.2 || !readsH p.op || d)
     | false => d || (fs.contains y.1 && y.2 && !isR q.op))
  | _, _ => false
def pairsOKF (ops : Array Oper) (fs : List Nat) (ms : List Nat) : List (Nat × Bool) -> Bool
  | [] => true
  | x :: l => l.all (pairOKF ops fs ms x) && pairsOKF ops fs ms l
def drawOKF (ops : Array Oper) (fs : List Nat) (canon : List (Nat × Bool)) : Bool :=
  let ms := masksGo ops.toList []
  pairsOKF ops fs ms canon && edgesOK ops && decide (canon.length = ops.size) && canon.all (fun x => decide (x.1 < ops.size)) && (List.range ops.size).all (fun i => (canon.map (·.1)).contains i)

section
variable {P : Program} {N : Nat} {ops : Array Oper} {K : Fr -> Heap -> Prop} {fs : List Nat}

def vF (P : Program) (N : Nat) (ops : Array Oper) (fs : List Nat) (K : Fr -> Heap -> Prop) : Nat -> List (Nat × Bool) -> Fr -> Heap -> Prop
  | _, [], fr, H => K fr H
  | 0, _ :: _, _, _ => False
  | n + 1, (i, fl) :: l, fr, H => match ops[i]? with
    | none => False
    | some o => match isR o.op with
      | true => vstep P N ops o (vF P N ops fs K n l) fr H
      | false => vstep P N ops o (eK fl H (vF P N ops fs K n l)) fr H /\
          ∀ f, f ∈ fs -> f ∈ l.map (·.1) -> ∃ o', ops[f]? = some o' /\ isR o'.op = false /\ vstep P N ops o' (eK true H (vF P N ops fs K n ((i, fl) :: l.filter fun y => y.1 != f))) fr H

theorem vstep_closed {o : Oper} {T : Fr -> Heap -> Prop} (hT : Closed T) {f g : Fr} {H : Heap} (hfg : feq f g) (h : vstep P N ops o T f H) : vstep P N ops o T g H := by
  cases hR : isR o.op with
  | true =>
    obtain ⟨v, h1, h2⟩ := vstep_R hR hT h
    exact h2 g H _ hT (agreeG.of_feq hfg) (fun _ => List.prefix_refl _) (hT _ _ _ (hfg.put _ _) h1)
  | false =>
    refine vstep_weak (vstep_E hT h (agreeG.of_feq hfg)) ?_
    rintro f' h' ⟨v, h1, h2⟩
    exact hT _ _ _ ((hfg.put _ _).trans h1) h2
theorem eK_closed {fl : Bool} {H : Heap} {T : Fr -> Heap -> Prop} (hT : Closed T) : Closed (eK fl H T) := by
  intro f g h' hfg hk
  cases fl with
  | true => exact ⟨hk.1, hT _ _ _ hfg hk.2⟩
  | false => exact hT _ _ _ hfg hk
theorem vF_closed (hK : Closed K) : ∀ n l, Closed (vF P N ops fs K n l)
  | 0, [] => hK
  | n + 1, [] => hK
  | 0, _ :: _ => fun _ _ _ _ h => h
  | n + 1, (i, fl) :: l => by
    intro f g H hfg h
    simp only [vF] at h ⊢
    split at h
    · exact h.elim
    · rename_i o ho
      cases hR : isR o.op with
      | true => simp only [hR] at h ⊢; exact vstep_closed (vF_closed hK n l) hfg h
      | false =>
        simp only [hR] at h ⊢
        refine ⟨vstep_closed (eK_closed (vF_closed hK n l)) hfg h.1, fun f hf hm => ?_⟩
        obtain ⟨o', h1, h2, h3⟩ := h.2 f hf hm
        exact ⟨o', h1, h2, vstep_closed (eK_closed (vF_closed hK n _)) hfg h3⟩

def seqR (P : Program) (N : Nat) (ops : Array Oper) (T : Fr -> Heap -> Prop) : List (Nat × Bool) -> Fr -> Heap -> Prop
  | [], fr, H => T fr H
  | (j, _) :: l, fr, H => match ops[j]? with
    | none => False
    | some p => vstep P N ops p (seqR P N ops T l) fr H
theorem seqR_closed {T : Fr -> Heap -> Prop} (hT : Closed T) : ∀ l, Closed (seqR P N ops T l)
  | [] => hT
  | (j, fj) :: l => by
    intro f g H hfg h
    simp only [seqR] at h ⊢
    split at h
    · exact h.elim
    · exact vstep_closed (seqR_closed hT l) hfg h
theorem vF_seqR {n : Nat} {rest : List (Nat × Bool)} : ∀ (l1 : List (Nat × Bool)) (fr : Fr) (H : Heap), (∀ x ∈ l1, ∃ p, ops[x.1]? = some p /\ isR p.op = true) ->
    (vF P N ops fs K (l1.length + n) (l1 ++ rest) fr H ↔ seqR P N ops (vF P N ops fs K n rest) l1 fr H)
  | [], fr, H, _ => by simp [seqR]
  | (j, fj) :: l1, fr, H, hl => by
    obtain ⟨p, hp, hR⟩ := hl (j, fj) (by simp)
    have ih := fun fr H => vF_seqR (n := n) (rest := rest) l1 fr H fun x hx => hl x (by simp [hx])
    rw [show ((j, fj) :: l1).length + n = (l1.length + n) + 1 by simp; omega]
    simp only [List.cons_append, vF, seqR, hp, hR]
    exact ⟨fun h => vstep_weak h fun f h => (ih f h).1, fun h => vstep_weak h fun f h => (ih f h).2⟩

theorem front_gen {o : Oper} {fl : Bool} {T T' : Fr -> Heap -> Prop} (hT : Closed T) (hT' : Closed T') (hstep : ∀ fr H, T fr H -> vstep P N ops o (fun f h => rel o fl H h /\ T' f h) fr H) : ∀ (l1 : List (Nat × Bool)) (fr : Fr) (H : Heap),
    (∀ x ∈ l1, ∃ p, ops[x.1]? = some p /\ isR p.op = true /\ indep ops p o = true /\ (readsH p.op = true -> isR o.op = true \/ fl = true)) ->
    seqR P N ops T l1 fr H -> vstep P N ops o (fun f h => rel o fl H h /\ seqR P N ops T' l1 f h) fr H
  | [], fr, H, _, h => hstep fr H h
  | (j, fj) :: l1, fr, H, hl, h => by
    obtain ⟨p, hp, hR, hin, hrd⟩ := hl (j, fj) (by simp)
    simp only [seqR, hp] at h ⊢
    have hc1 := seqR_closed (P := P) (N := N) (ops := ops) hT l1
    have hc2 := seqR_closed (P := P) (N := N) (ops := ops) hT' l1
    obtain ⟨v, h1, h2⟩ := vstep_R hR hc1 h
    have ih := front_gen hT hT' hstep l1 (fr.put p.dst v) H (fun x hx => hl x (by simp [hx])) h1
    obtain ⟨i1, i2, i3⟩ := indep_spec hin
    have hcK : Closed (fun f h => rel o fl H h /\ seqR P N ops T' l1 f h) := fun f g h hfg hk => ⟨hk.1, hc2 _ _ _ hfg hk.2⟩
    have hag : agreeG ops o (fr.put p.dst v) fr := agreeG.symm (agreeG.put i1)
    refine vstep_weak (vstep_E hcK ih hag) ?_
    rintro f h' ⟨u, hf, hrel, hv⟩
    refine ⟨hrel, ?_⟩
    have hvE : vstep P N ops p (seqR P N ops T' l1) (fr.put o.dst u) h' := by
      refine h2 (fr.put o.dst u) h' _ hc2 (agreeG.put i2) (fun hr => hrel (hrd hr)) ?_
      exact hc2 _ _ _ (put_comm fr i3 v u) hv
    exact vstep_closed hc2 hf hvE

theorem eK_rel {o : Oper} {fl : Bool} {T : Fr -> Heap -> Prop} {fr : Fr} {H : Heap} (hR : isR o.op = false) (h : vstep P N ops o (eK fl H T) fr H) : vstep P N ops o (fun f h => rel o fl H h /\ T f h) fr H := by
  refine vstep_weak h ?_
  intro f h' hk
  cases fl with
  | true => exact ⟨fun _ => hk.1, hk.2⟩
  | false => exact ⟨fun e => by simp [hR] at e, hk⟩

theorem vF_front (hK : Closed K) {n i : Nat} {fl : Bool} {l1 l2 : List (Nat × Bool)} {o : Oper} (ho : ops[i]? = some o) {fr : Fr} {H : Heap}
    (hl1 : ∀ x ∈ l1, ∃ p, ops[x.1]? = some p /\ isR p.op = true /\ indep ops p o = true /\ (readsH p.op = true -> isR o.op = true \/ fl = true))
    (h : vF P N ops fs K (l1.length + (n + 1)) (l1 ++ (i, fl) :: l2) fr H) : vstep P N ops o (fun f h => rel o fl H h /\ vF P N ops fs K (l1.length + n) (l1 ++ l2) f h) fr H := by
  have hl1' : ∀ x ∈ l1, ∃ p, ops[x.1]? = some p /\ isR p.op = true := fun x hx => by obtain ⟨p, h1, h2, _⟩ := hl1 x hx; exact ⟨p, h1, h2⟩
  rw [vF_seqR l1 fr H hl1'] at h
  have hstep : ∀ fr H, vF P N ops fs K (n + 1) ((i, fl) :: l2) fr H -> vstep P N ops o (fun f h => rel o fl H h /\ vF P N ops fs K n l2 f h) fr H := by
    intro fr H h
    simp only [vF, ho] at h
    cases hR : isR o.op with
    | true =>
      simp only [hR] at h
      obtain ⟨v, h1, h2⟩ := vstep_R hR (vF_closed hK n l2) h
      refine h2 fr H _ ?_ (fun _ _ => rfl) (fun _ => List.prefix_refl _) ⟨fun _ => List.prefix_refl _, h1⟩
      intro f g h hfg hk
      exact ⟨hk.1, vF_closed hK n l2 _ _ _ hfg hk.2⟩
    | false => simp only [hR] at h; exact eK_rel hR h.1
  refine vstep_weak (front_gen (vF_closed hK _ _) (vF_closed hK n l2) hstep l1 fr H hl1 h) ?_
  rintro f h' ⟨h1, h2⟩
  exact ⟨h1, (vF_seqR l1 f h' hl1').2 h2⟩
theorem vF_float (hK : Closed K) {n i f : Nat} {fl : Bool} {r1 l2 : List (Nat × Bool)} {o o' : Oper} (ho : ops[i]? = some o) (hE : isR o.op = false) (hf : ops[f]? = some o') (hff : f ∈ fs) (hfl : f ∈ l2.map (·.1)) {fr : Fr} {H : Heap}
    (hl1 : ∀ x ∈ r1, ∃ p, ops[x.1]? = some p /\ isR p.op = true /\ indep ops p o' = true)
    (h : vF P N ops fs K (r1.length + (n + 1)) (r1 ++ (i, fl) :: l2) fr H) : vstep P N ops o' (fun f' h => rel o' true H h /\ vF P N ops fs K (r1.length + n) (r1 ++ (i, fl) :: l2.filter fun y => y.1 != f) f' h) fr H := by
  have hl1' : ∀ x ∈ r1, ∃ p, ops[x.1]? = some p /\ isR p.op = true := fun x hx => by obtain ⟨p, h1, h2, _⟩ := hl1 x hx; exact ⟨p, h1, h2⟩
  rw [vF_seqR r1 fr H hl1'] at h
  have hstep : ∀ fr H, vF P N ops fs K (n + 1) ((i, fl) :: l2) fr H -> vstep P N ops o' (fun f' h => rel o' true H h /\ vF P N ops fs K n ((i, fl) :: l2.filter fun y => y.1 != f) f' h) fr H := by
    intro fr H h
    simp only [vF, ho, hE] at h
    obtain ⟨o2, h1, h2, h3⟩ := h.2 f hff hfl
    rw [hf] at h1; cases h1
    exact eK_rel h2 h3
  refine vstep_weak (front_gen (vF_closed hK _ _) (vF_closed hK n _) hstep r1 fr H (fun x hx => by obtain ⟨p, h1, h2, h3⟩ := hl1 x hx; exact ⟨p, h1, h2, h3, fun _ => .inr rfl⟩) h) ?_
  rintro f h' ⟨h1, h2⟩
  exact ⟨h1, (vF_seqR r1 f h' hl1').2 h2⟩

theorem pairsOKF_spec {ms : List Nat} : ∀ {l1 : List (Nat × Bool)} {y : Nat × Bool} {l2 : List (Nat × Bool)}, pairsOKF ops fs ms (l1 ++ y :: l2) = true -> (∀ x ∈ l1, pairOKF ops fs ms x y = true) /\ (∀ z ∈ l2, pairOKF ops fs ms y z = true) /\ pairsOKF ops fs ms (l1 ++ l2) = true
  | [], y, l2, h => by
    simp only [List.nil_append, pairsOKF, Bool.and_eq_true, List.all_eq_true] at h
    exact ⟨by simp, h.1, h.2⟩
  | x :: l1, y, l2, h => by
    simp only [List.cons_append, pairsOKF, Bool.and_eq_true, List.all_eq_true] at h ⊢
    obtain ⟨h1, h2⟩ := h
    obtain ⟨h3, h4, h5⟩ := pairsOKF_spec h2
    refine ⟨fun z hz => ?_, h4, fun z hz => h1 z ?_, h5⟩
    · rcases List.mem_cons.1 hz with rfl | hz
      · exact h1 y (by simp)
      · exact h3 z hz
    · rcases List.mem_append.1 hz with hz | hz
      · simp [hz]
      · simp [hz]

theorem first_effect : ∀ (l : List (Nat × Bool)), (∀ x ∈ l, ∃ p, ops[x.1]? = some p) -> (∀ x ∈ l, ∃ p, ops[x.1]? = some p /\ isR p.op = true) \/
    ∃ r1 e o r2, l = r1 ++ e :: r2 /\ ops[e.1]? = some o /\ isR o.op = false /\ ∀ x ∈ r1, ∃ p, ops[x.1]? = some p /\ isR p.op = true
  | [], _ => .inl (by simp)
  | x :: l, h => by
    obtain ⟨p, hp⟩ := h x (by simp)
    cases hR : isR p.op with
    | false => exact .inr ⟨[], x, p, l, rfl, hp, hR, by simp⟩
    | true =>
      rcases first_effect l fun y hy => h y (by simp [hy]) with h1 | ⟨r1, e, o, r2, rfl, h2, h3, h4⟩
      · left
        intro y hy
        rcases List.mem_cons.1 hy with rfl | hy
        · exact ⟨p, hp, hR⟩
        · exact h1 y hy
      · refine .inr ⟨x :: r1, e, o, r2, rfl, h2, h3, fun y hy => ?_⟩
        rcases List.mem_cons.1 hy with rfl | hy
        · exact ⟨p, hp, hR⟩
        · exact h4 y hy

theorem drawF_any {B : Nat} {w0 : World} {Q : Exit -> Act -> World -> Prop} (hK : Closed K) (hedge : edgesOK ops = true) : ∀ (n : Nat) (listed : Array Bool) (l : List (Nat × Bool)) (fr : Fr) (H : Heap) (ρ : Rho) (w : World) (a : Act),
    listed.size = ops.size -> l.length = n -> pairsOKF ops fs (masksGo ops.toList []) l = true -> (∀ x ∈ l, x.1 < ops.size /\ listed.getD x.1 true = false) -> (∀ i, i < ops.size -> listed.getD i true = false -> ∃ x ∈ l, x.1 = i) ->
    (∀ (j : Nat) (o : Oper), ops[j]? = some o -> listed.getD j false = true -> ∀ e ∈ o.after.toList, Region.binds .any e = true -> listed.getD e.on false = true) ->
    vF P N ops fs K n l fr H -> R B w0 ρ H w -> FR N ρ fr a ->
    (∀ (ρ' : Rho) (fr' : Fr) (H' : Heap) (a' : Act) (w' : World), ρ <+: ρ' -> K fr' H' -> R B w0 ρ' H' w' -> FR N ρ' fr' a' -> Q .normal a' w') -> wpAny P .any ops Q n listed a w := by
  intro n
  have getD2 : ∀ (listed : Array Bool) (i : Nat), listed.size = ops.size -> i < ops.size -> listed.getD i true = listed.getD i false := by
    intro listed i h1 h2
    simp [Array.getD_eq_getD_getElem?, h1, h2]
  induction n with
  | zero =>
    intro listed l fr H ρ w a hsz hl hp hin hall hcl hv hR hF hq
    have : l = [] := List.eq_nil_of_length_eq_zero hl
    subst this
    refine ⟨?_, hq ρ fr H a w (List.prefix_refl _) hv hR hF⟩
    rw [List.eq_nil_iff_forall_not_mem]
    intro i hi
    simp only [Region.ready, List.mem_filter, List.mem_range, Bool.and_eq_true, Bool.not_eq_true'] at hi
    obtain ⟨x, hx, _⟩ := hall i hi.1 hi.2.1
    simp at hx
  | succ n ih =>
    intro listed l fr H ρ w a hsz hl hp hin hall hcl hv hR hF hq
    refine ⟨?_, ?_⟩
    · intro hnil
      exfalso
      match l, hl with
      | (i, fl) :: l, hl =>
        obtain ⟨h1, h2⟩ := hin (i, fl) (by simp)
        have hi : i ∈ Region.ready .any ops listed := by
          simp only [Region.ready, List.mem_filter, List.mem_range, Bool.and_eq_true, Bool.not_eq_true']
          refine ⟨h1, h2, ?_⟩
          rw [Array.getElem?_eq_getElem h1]
          simp only [Option.map_some, Option.getD_some, Array.all_eq_true']
          intro e he
          rw [Bool.or_eq_true, Bool.not_eq_true']
          by_cases hb : Region.binds .any e = true
          · right
            have hedge' := List.all_eq_true.1 hedge i (by simpa using h1)
            simp only [Array.getElem?_eq_getElem h1, List.all_eq_true] at hedge'
            have he' := hedge' e (by simpa using he)
            simp only [hb, Bool.not_true, Bool.false_or, Bool.and_eq_true, decide_eq_true_eq, bne_iff_ne, ne_eq] at he'
            rw [<- getD2 listed e.on hsz he'.1]
            cases hg : listed.getD e.on true with
            | true => rfl
            | false =>
              obtain ⟨x, hx, hxe⟩ := hall e.on he'.1 hg
              rcases List.mem_cons.1 hx with rfl | hx
              · exact absurd hxe.symm he'.2
              · have hpo := (pairsOKF_spec (l1 := []) hp).2.1 x hx
                have hx1 := (hin x (by simp [hx])).1
                simp only [pairOKF, Array.getElem?_eq_getElem h1, Array.getElem?_eq_getElem hx1, Bool.and_eq_true, Bool.not_eq_true'] at hpo
                have hd := hpo.1.1
                simp only [directTo, List.any_eq_false, Bool.and_eq_true, beq_iff_eq, not_and] at hd
                exact absurd hxe.symm (hd e (by simpa using he) hb)
          · left; simpa using hb
        rw [hnil] at hi
        simp at hi
    · intro i hi
      simp only [Region.ready, List.mem_filter, List.mem_range, Bool.and_eq_true, Bool.not_eq_true'] at hi
      obtain ⟨hilt, hnl, hrdy⟩ := hi
      rw [Array.getElem?_eq_getElem hilt] at hrdy
      simp only [Option.map_some, Option.getD_some, Array.all_eq_true'] at hrdy
      have ho : ops[i]? = some ops[i] := Array.getElem?_eq_getElem hilt
      obtain ⟨x, hx, hxi⟩ := hall i hilt hnl
      obtain ⟨l1, l2, rfl⟩ := List.append_of_mem hx
      obtain ⟨i', fl⟩ := x
      simp only at hxi
      subst hxi
      obtain ⟨hp1, hp2, hp3⟩ := pairsOKF_spec hp
      have hpre : ∀ e ∈ (ops[i']).after.toList, Region.binds .any e = true -> listed.getD e.on false = true := by
        intro e he hb
        have := hrdy e (by simpa using he)
        simpa [hb] using this
      have hdep : ∀ y ∈ l1, ¬ ((masksGo ops.toList []).getD i' 0).testBit y.1 = true := by
        intro y hy hb
        have := masks_sound (ops := ops) (fun j => listed.getD j false = true) hcl ops.toList [] (fun j _ => by simp) (fun j o p hj => by simp at hj) i' _ y.1 ho hb hpre
        obtain ⟨hy1, hy2⟩ := hin y (by simp [hy])
        rw [getD2 listed y.1 hsz hy1] at hy2
        rw [hy2] at this; cases this
      have hR1 : ∀ y ∈ l1, ∀ p, ops[y.1]? = some p -> isR p.op = true -> indep ops p ops[i'] = true /\ (readsH p.op = true -> isR (ops[i']).op = true \/ fl = true) := by
        intro y hy p hp' hRp
        have hy1 := (hin y (by simp [hy])).1
        have hpo := hp1 y hy
        have hd := hdep y hy
        simp only [pairOKF, hp', ho, Bool.and_eq_true] at hpo
        have hpo2 := hpo.2
        simp only [Bool.not_eq_true] at hd
        simp only [hRp, hd, Bool.false_or, Bool.or_false, Bool.and_eq_true, Bool.or_eq_true, Bool.not_eq_true'] at hpo2
        refine ⟨hpo2.1, fun hr => ?_⟩
        rcases hpo2.2 with (h | h) | h
        · exact .inl h
        · exact .inr h
        · rw [hr] at h; cases h
      have hE1 : ∀ y ∈ l1, ∀ p, ops[y.1]? = some p -> isR p.op = false -> i' ∈ fs /\ fl = true /\ isR (ops[i']).op = false := by
        intro y hy p hp' hRp
        have hpo := hp1 y hy
        have hd := hdep y hy
        simp only [pairOKF, hp', ho, Bool.and_eq_true] at hpo
        have hpo2 := hpo.2
        simp only [Bool.not_eq_true] at hd
        simp only [hRp, hd, Bool.false_or, Bool.and_eq_true, Bool.not_eq_true', List.contains_iff_mem] at hpo2
        exact ⟨hpo2.1.1, hpo2.1.2, hpo2.2⟩
      have hnd : ∀ y ∈ l1 ++ l2, y.1 ≠ i' := by
        intro y hy e
        rcases List.mem_append.1 hy with hy | hy
        · have hpo := hp1 y hy
          have hy1 := (hin y (by simp [hy])).1
          simp [pairOKF, Array.getElem?_eq_getElem hy1, ho, e] at hpo
        · have hpo := hp2 y hy
          have hy1 := (hin y (by simp [hy])).1
          simp [pairOKF, Array.getElem?_eq_getElem hy1, ho, e] at hpo
      have hstep : vstep P N ops ops[i'] (fun f h => rel ops[i'] fl H h /\ vF P N ops fs K n (l1 ++ l2) f h) fr H := by
        simp only [List.length_append, List.length_cons] at hl
        rcases first_effect (ops := ops) l1 (fun x hx => ⟨_, Array.getElem?_eq_getElem (hin x (by simp [hx])).1⟩) with hall1 | ⟨r1, e, oe, r2, rfl, he1, he2, he3⟩
        · rw [show n = l1.length + l2.length by omega]
          rw [show n + 1 = l1.length + (l2.length + 1) by omega] at hv
          exact vF_front hK ho (fun x hx => by obtain ⟨p, h1, h2⟩ := hall1 x hx; obtain ⟨h3, h4⟩ := hR1 x hx p h1 h2; exact ⟨p, h1, h2, h3, h4⟩) hv
        · obtain ⟨hif, hfl, hEi⟩ := hE1 e (by simp) oe he1 he2
          subst hfl
          simp only [List.length_append, List.length_cons] at hl
          rw [show n + 1 = r1.length + ((r2.length + 1 + l2.length) + 1) by omega, List.append_assoc, List.cons_append] at hv
          have hfilt : (r2 ++ (i', true) :: l2).filter (fun y => y.1 != i') = r2 ++ l2 := by
            rw [List.filter_append, List.filter_cons]
            simp only [bne_self_eq_false, Bool.false_eq_true, if_false]
            rw [List.filter_eq_self.2, List.filter_eq_self.2]
            · intro y hy; simpa using hnd y (by simp [hy])
            · intro y hy; simpa using hnd y (by simp [hy])
          have := vF_float (f := i') hK he1 he2 ho hif (by simp) (fun x hx => by
            obtain ⟨p, h1, h2⟩ := he3 x hx
            exact ⟨p, h1, h2, (hR1 x (by simp [hx]) p h1 h2).1⟩) hv
          rw [hfilt] at this
          rw [show n = r1.length + (r2.length + 1 + l2.length) by omega, List.append_assoc, List.cons_append]
          exact this
      unfold wpOp
      rw [ho]
      refine vstep_sound hstep hR hF Q ?_
      rintro ρ' fr' H' a' w' hpre' ⟨_, hv'⟩ hR' hF'
      refine ih (listed.setIfInBounds i' true) (l1 ++ l2) fr' H' ρ' w' a' (by simpa using hsz) (by simp at hl ⊢; omega) hp3 ?_ ?_ ?_ hv' hR' hF' (fun ρ'' f'' H'' a'' w'' h1 => hq ρ'' f'' H'' a'' w'' (hpre'.trans h1))
      · intro y hy
        have hne := hnd y hy
        obtain ⟨h1, h2⟩ := hin y (by rcases List.mem_append.1 hy with hy | hy <;> simp [hy])
        exact ⟨h1, by rw [getD_set_ne _ (fun e => hne e.symm)]; exact h2⟩
      · intro j hj hnj
        by_cases e : i' = j
        · subst e
          exfalso
          have : (listed.setIfInBounds i' true).getD i' true = true := by simp [Array.getD_eq_getD_getElem?]
          rw [this] at hnj; cases hnj
        · rw [getD_set_ne _ e] at hnj
          obtain ⟨y, hy, rfl⟩ := hall j hj hnj
          refine ⟨y, ?_, rfl⟩
          rcases List.mem_append.1 hy with hy | hy
          · simp [hy]
          · rcases List.mem_cons.1 hy with rfl | hy
            · exact absurd rfl e
            · simp [hy]
      · intro j o hj hlj e he hb
        by_cases e' : i' = j
        · subst e'
          rw [ho] at hj; cases hj
          exact getD_set_true (hpre e he hb)
        · rw [getD_set_ne _ e'] at hlj
          exact getD_set_true (hcl j o hj hlj e he hb)

inductive Tree
  | nil
  | one (i : Nat) (fl : Bool) (t : Tree)
  | two (i : Nat) (fl : Bool) (t : Tree) (f : Nat) (t' : Tree)

def vT (P : Program) (N : Nat) (ops : Array Oper) (K : Fr -> Heap -> Prop) : Tree -> Fr -> Heap -> Prop
  | .nil, fr, H => K fr H
  | .one i fl t, fr, H => match ops[i]? with
    | none => False
    | some o => match isR o.op with
      | true => vstep P N ops o (vT P N ops K t) fr H
      | false => vstep P N ops o (eK fl H (vT P N ops K t)) fr H
  | .two i fl t f t', fr, H => match ops[i]?, ops[f]? with
    | some o, some o' => vstep P N ops o (eK fl H (vT P N ops K t)) fr H /\ vstep P N ops o' (eK true H (vT P N ops K t')) fr H
    | _, _ => False
def treeOK (ops : Array Oper) (fs : List Nat) : Tree -> List (Nat × Bool) -> Bool
  | .nil, l => l.isEmpty
  | .one i fl t, (j, fl') :: l => i == j && fl == fl' && ((match ops[i]? with | some o => isR o.op | none => false) || fs.all fun f => !(l.map (·.1)).contains f) && treeOK ops fs t l
  | .two i fl t f t', (j, fl') :: l => i == j && fl == fl' && (match ops[i]?, ops[f]? with | some o, some o' => !isR o.op && !isR o'.op | _, _ => false) && (fs.all fun g => g == f || !(l.map (·.1)).contains g) && treeOK ops fs t l && treeOK ops fs t' ((j, fl') :: l.filter fun y => y.1 != f)
  | _, [] => false
theorem vT_vF : ∀ (t : Tree) (n : Nat) (l : List (Nat × Bool)) (fr : Fr) (H : Heap), l.length <= n -> (∀ x y, x ∈ l -> y ∈ l -> x.1 = y.1 -> x = y) -> treeOK ops fs t l = true -> vT P N ops K t fr H -> vF P N ops fs K n l fr H := by
  intro t
  induction t with
  | nil =>
    intro n l fr H hn _ hok h
    cases l with
    | nil => cases n <;> exact h
    | cons x l => simp [treeOK] at hok
  | one i fl t ih =>
    intro n l fr H hn hu hok h
    cases l with
    | nil => simp [treeOK] at hok
    | cons x l =>
      obtain ⟨j, fl'⟩ := x
      simp only [treeOK, Bool.and_eq_true, beq_iff_eq] at hok
      obtain ⟨⟨⟨rfl, rfl⟩, hfl⟩, hok⟩ := hok
      cases n with
      | zero => simp at hn
      | succ n =>
        simp only [List.length_cons] at hn
        have hu' : ∀ x y, x ∈ l -> y ∈ l -> x.1 = y.1 -> x = y := fun x y hx hy => hu x y (by simp [hx]) (by simp [hy])
        simp only [vT] at h
        simp only [vF]
        cases ho : ops[i]? with
        | none => simp [ho] at h
        | some o =>
          simp only [ho] at h hfl ⊢
          cases hR : isR o.op with
          | true => simp only [hR] at h ⊢; exact vstep_weak h fun f h => ih n l f h (by omega) hu' hok
          | false =>
            simp only [hR, Bool.false_or, List.all_eq_true] at h hfl ⊢
            refine ⟨vstep_weak h fun f h' hk => ?_, fun f hf hm => ?_⟩
            · cases fl with
              | true => exact ⟨hk.1, ih n l f h' (by omega) hu' hok hk.2⟩
              | false => exact ih n l f h' (by omega) hu' hok hk
            · have := hfl f hf
              simp only [Bool.not_eq_true', List.contains_eq_mem, decide_eq_false_iff_not] at this
              exact absurd hm this
  | two i fl t f t' ih ih' =>
    intro n l fr H hn hu hok h
    cases l with
    | nil => simp [treeOK] at hok
    | cons x l =>
      obtain ⟨j, fl'⟩ := x
      simp only [treeOK, Bool.and_eq_true, beq_iff_eq] at hok
      obtain ⟨⟨⟨⟨⟨rfl, rfl⟩, hE⟩, hfl⟩, hok⟩, hok'⟩ := hok
      cases n with
      | zero => simp at hn
      | succ n =>
        simp only [List.length_cons] at hn
        have hu' : ∀ x y, x ∈ l -> y ∈ l -> x.1 = y.1 -> x = y := fun x y hx hy => hu x y (by simp [hx]) (by simp [hy])
        simp only [vT] at h
        simp only [vF]
        cases ho : ops[i]? with
        | none => simp [ho] at h
        | some o =>
          cases ho' : ops[f]? with
          | none => simp [ho, ho'] at h
          | some o' =>
            simp only [ho, ho', Bool.and_eq_true, Bool.not_eq_true'] at h hE ⊢
            simp only [hE.1]
            refine ⟨vstep_weak h.1 fun g h' hk => ?_, fun g hg hm => ?_⟩
            · cases fl with
              | true => exact ⟨hk.1, ih n l g h' (by omega) hu' hok hk.2⟩
              | false => exact ih n l g h' (by omega) hu' hok hk
            · rw [List.all_eq_true] at hfl
              have hgf := hfl g hg
              simp only [Bool.or_eq_true, beq_iff_eq, Bool.not_eq_true', List.contains_eq_mem, decide_eq_false_iff_not] at hgf
              have : g = f := hgf.resolve_right (fun e => e hm)
              subst this
              refine ⟨o', ho', hE.2, vstep_weak h.2 fun q h' hk => ⟨hk.1, ih' n _ q h' ?_ ?_ hok' hk.2⟩⟩
              · obtain ⟨z, hz, hzg⟩ := List.mem_map.1 hm
                have : (l.filter fun y => y.1 != g).length < l.length := by
                  rw [List.length_filter_lt_length_iff_exists]
                  exact ⟨z, hz, by simp [hzg]⟩
                simp only [List.length_cons]; omega
              · intro x y hx hy
                refine hu x y ?_ ?_
                · rcases List.mem_cons.1 hx with rfl | hx
                  · simp
                  · exact List.mem_cons_of_mem _ (List.mem_filter.1 hx).1
                · rcases List.mem_cons.1 hy with rfl | hy
                  · simp
                  · exact List.mem_cons_of_mem _ (List.mem_filter.1 hy).1

theorem AWp.drawF {id : Nat} {fr : Fr} {H : Heap} {Q : Exit -> Fr -> Heap -> Prop} (hm : P.follows .mixedOrders = true) (fs : List Nat) (canon : List (Nat × Bool)) (t : Tree) (hok : (drawOKF ops fs canon && treeOK ops fs t canon) = true) (h : vT P N ops (Q .normal) t fr H) : AWp P N (.region id ops true) Q fr H := by
  intro B w0 ρ w a hR hF
  simp only [drawOKF, Bool.and_eq_true, decide_eq_true_eq, List.all_eq_true, List.mem_range, List.contains_iff_mem, List.mem_map] at hok
  obtain ⟨⟨⟨⟨⟨h1, h2⟩, h3⟩, h4⟩, h5⟩, h6⟩ := hok
  refine wp_region_any hm ?_
  let K : Fr -> Heap -> Prop := fun f h => ∃ g, feq g f /\ Q .normal g h
  have hK : Closed K := fun f g h hfg ⟨k, hk, hq⟩ => ⟨k, hk.trans hfg, hq⟩
  have hu : ∀ x y, x ∈ canon -> y ∈ canon -> x.1 = y.1 -> x = y := by
    intro x y hx hy e
    obtain ⟨l1, l2, rfl⟩ := List.append_of_mem hx
    obtain ⟨hp1, hp2, _⟩ := pairsOKF_spec h1
    rcases List.mem_append.1 hy with hy | hy
    · have := hp1 y hy
      unfold pairOKF at this
      split at this
      · simp [e] at this
      · cases this
    · rcases List.mem_cons.1 hy with rfl | hy
      · rfl
      · have := hp2 y hy
        unfold pairOKF at this
        split at this
        · simp [e] at this
        · cases this
  have hv : vF P N ops fs K ops.size canon fr H := by
    refine vT_vF t ops.size canon fr H (by omega) hu h6 ?_
    have weak : ∀ (t : Tree) (fr : Fr) (H : Heap), vT P N ops (Q .normal) t fr H -> vT P N ops K t fr H := by
      intro t
      induction t with
      | nil => exact fun fr H h => ⟨fr, feq.rfl' _, h⟩
      | one i fl t ih =>
        intro fr H h
        simp only [vT] at h ⊢
        split at h
        · exact h
        · rename_i o ho
          cases hR : isR o.op with
          | true => simp only [hR] at h ⊢; exact vstep_weak h ih
          | false =>
            simp only [hR] at h ⊢
            refine vstep_weak h ?_
            intro f h' hk
            cases fl with
            | true => exact ⟨hk.1, ih _ _ hk.2⟩
            | false => exact ih _ _ hk
      | two i fl t f t' ih ih' =>
        intro fr H h
        simp only [vT] at h ⊢
        split at h
        · rename_i o o' ho ho'
          refine ⟨vstep_weak h.1 ?_, vstep_weak h.2 fun f h' hk => ⟨hk.1, ih' _ _ hk.2⟩⟩
          intro f h' hk
          cases fl with
          | true => exact ⟨hk.1, ih _ _ hk.2⟩
          | false => exact ih _ _ hk
        · exact h
    exact weak t fr H h
  have hgt : ∀ i, i < ops.size -> (Array.replicate ops.size false).getD i true = false := by
    intro i hi
    simp [Array.getD_eq_getD_getElem?, hi]
  refine drawF_any (B := B) (w0 := w0) hK h2 ops.size (Array.replicate ops.size false) canon fr H ρ w.drew a (by simp) h3 h1 ?_ ?_ ?_ hv hR.drew hF ?_
  · intro x hx
    exact ⟨h4 x hx, hgt x.1 (h4 x hx)⟩
  · intro i hi _
    obtain ⟨x, hx, rfl⟩ := h5 i hi
    exact ⟨x, hx, rfl⟩
  · intro j o hj hl
    rw [Array.getD_eq_getD_getElem?, Array.getElem?_replicate] at hl
    split at hl <;> simp at hl
  · rintro ρ' fr' H' a' w' hp ⟨g, hg, hq⟩ hR' hF'
    exact ⟨ρ', g, H', hp, hR', hF'.feq hg.symm, hq⟩

/-! The words of such a tree, for simp. -/

def vTK (P : Program) (N : Nat) (ops : Array Oper) (K : Fr -> Heap -> Prop) (t : Tree) (fr : Fr) (H : Heap) : Prop := vT P N ops K t fr H
def eTK (P : Program) (N : Nat) (ops : Array Oper) (K : Fr -> Heap -> Prop) (t : Tree) (fl : Bool) (H : Heap) (fr : Fr) (H' : Heap) : Prop :=
  match fl with
  | true => andK (H <+: H') (vT P N ops K t fr H')
  | false => vT P N ops K t fr H'
def vTo (P : Program) (N : Nat) (ops : Array Oper) (K : Fr -> Heap -> Prop) (t : Tree) (fl : Bool) (fr : Fr) (H : Heap) (o : Oper) : Prop :=
  match isR o.op with
  | true => vstep P N ops o (vTK P N ops K t) fr H
  | false => vstep P N ops o (eTK P N ops K t fl H) fr H
def vTe (P : Program) (N : Nat) (ops : Array Oper) (K : Fr -> Heap -> Prop) (t : Tree) (fl : Bool) (fr : Fr) (H : Heap) (o : Oper) : Prop := vstep P N ops o (eTK P N ops K t fl H) fr H

theorem vT_nil (K : Fr -> Heap -> Prop) (fr : Fr) (H : Heap) : vT P N ops K .nil fr H = K fr H := rfl
theorem eTK_eq (K : Fr -> Heap -> Prop) (t : Tree) (fl : Bool) (H : Heap) : eK fl H (vT P N ops K t) = eTK P N ops K t fl H := by
  funext f h
  cases fl <;> rfl
theorem vT_one (K : Fr -> Heap -> Prop) (i : Nat) (fl : Bool) (t : Tree) (fr : Fr) (H : Heap) : vT P N ops K (.one i fl t) fr H = bindO ops[i]? (vTo P N ops K t fl fr H) := by
  simp only [vT]
  cases ops[i]? with
  | none => simp [bindO]
  | some o =>
    simp only [bindO_some, vTo]
    cases isR o.op with
    | true => rfl
    | false => simp only [eTK_eq]
theorem vT_two {i : Nat} {fl : Bool} {t : Tree} {f : Nat} {t' : Tree} {K : Fr -> Heap -> Prop} {fr : Fr} {H : Heap} (h1 : bindO ops[i]? (vTe P N ops K t fl fr H)) (h2 : bindO ops[f]? (vTe P N ops K t' true fr H)) : vT P N ops K (.two i fl t f t') fr H := by
  simp only [vT]
  cases ho : ops[i]? with
  | none => simp [ho, bindO] at h1
  | some o =>
    cases ho' : ops[f]? with
    | none => simp [ho', bindO] at h2
    | some o' =>
      simp only [ho, ho', bindO_some, vTe] at h1 h2 ⊢
      exact ⟨by rw [eTK_eq]; exact h1, by rw [eTK_eq]; exact h2⟩

attribute [go_sem] vTK eTK vTo vTe vT_nil vT_one

end
end Go.Ab
end

section
namespace Go.Ab
open Go.RowKit (Below)

section
variable {P : Program} {N : Nat} {ops : Array Oper} {L : Nat} {K : Fr -> Heap -> Prop} {fs : List Nat}

def vFX (P : Program) (N : Nat) (ops : Array Oper) (L : Nat) (fs : List Nat) (K : Fr -> Heap -> Prop) : Nat -> List (Nat × Bool) -> Fr -> Heap -> Prop
  | _, [], fr, H => K fr H
  | 0, _ :: _, _, _ => False
  | n + 1, (i, fl) :: l, fr, H => match ops[i]? with
    | none => False
    | some o => match isR o.op with
      | true => offL L o.op fr /\ vstep P N ops o (vFX P N ops L fs K n l) fr H
      | false => vstep P N ops o (eKX L fl H (vFX P N ops L fs K n l)) fr H /\
          ∀ f, f ∈ fs -> f ∈ l.map (·.1) -> ∃ o', ops[f]? = some o' /\ isR o'.op = false /\ vstep P N ops o' (eKX L true H (vFX P N ops L fs K n ((i, fl) :: l.filter fun y => y.1 != f))) fr H

theorem eKX_closed {fl : Bool} {H : Heap} {T : Fr -> Heap -> Prop} (hT : Closed T) : Closed (eKX L fl H T) := by
  intro f g h' hfg hk
  cases fl with
  | true => exact ⟨hk.1, hT _ _ _ hfg hk.2⟩
  | false => exact hT _ _ _ hfg hk
theorem vFX_closed (hK : Closed K) : ∀ n l, Closed (vFX P N ops L fs K n l)
  | 0, [] => hK
  | n + 1, [] => hK
  | 0, _ :: _ => fun _ _ _ _ h => h
  | n + 1, (i, fl) :: l => by
    intro f g H hfg h
    simp only [vFX] at h ⊢
    split at h
    · exact h.elim
    · rename_i o ho
      cases hR : isR o.op with
      | true => simp only [hR] at h ⊢; exact ⟨offL_congr (fun x => feq.ev hfg x) h.1, vstep_closed (vFX_closed hK n l) hfg h.2⟩
      | false =>
        simp only [hR] at h ⊢
        refine ⟨vstep_closed (eKX_closed (vFX_closed hK n l)) hfg h.1, fun f hf hm => ?_⟩
        obtain ⟨o', h1, h2, h3⟩ := h.2 f hf hm
        exact ⟨o', h1, h2, vstep_closed (eKX_closed (vFX_closed hK n _)) hfg h3⟩

def seqRX (P : Program) (N : Nat) (ops : Array Oper) (L : Nat) (T : Fr -> Heap -> Prop) : List (Nat × Bool) -> Fr -> Heap -> Prop
  | [], fr, H => T fr H
  | (j, _) :: l, fr, H => match ops[j]? with
    | none => False
    | some p => offL L p.op fr /\ vstep P N ops p (seqRX P N ops L T l) fr H
theorem seqRX_closed {T : Fr -> Heap -> Prop} (hT : Closed T) : ∀ l, Closed (seqRX P N ops L T l)
  | [] => hT
  | (j, fj) :: l => by
    intro f g H hfg h
    simp only [seqRX] at h ⊢
    split at h
    · exact h.elim
    · exact ⟨offL_congr (fun x => feq.ev hfg x) h.1, vstep_closed (seqRX_closed hT l) hfg h.2⟩
theorem vFX_seqRX {n : Nat} {rest : List (Nat × Bool)} : ∀ (l1 : List (Nat × Bool)) (fr : Fr) (H : Heap), (∀ x ∈ l1, ∃ p, ops[x.1]? = some p /\ isR p.op = true) ->
    (vFX P N ops L fs K (l1.length + n) (l1 ++ rest) fr H ↔ seqRX P N ops L (vFX P N ops L fs K n rest) l1 fr H)
  | [], fr, H, _ => by simp [seqRX]
  | (j, fj) :: l1, fr, H, hl => by
    obtain ⟨p, hp, hR⟩ := hl (j, fj) (by simp)
    have ih := fun fr H => vFX_seqRX (n := n) (rest := rest) l1 fr H fun x hx => hl x (by simp [hx])
    rw [show ((j, fj) :: l1).length + n = (l1.length + n) + 1 by simp; omega]
    simp only [List.cons_append, vFX, seqRX, hp, hR]
    exact ⟨fun h => ⟨h.1, vstep_weak h.2 fun f h => (ih f h).1⟩, fun h => ⟨h.1, vstep_weak h.2 fun f h => (ih f h).2⟩⟩

theorem frontX_gen {o : Oper} {fl : Bool} {T T' : Fr -> Heap -> Prop} (hT : Closed T) (hT' : Closed T') (hstep : ∀ fr H, T fr H -> vstep P N ops o (fun f h => relX L o fl H h /\ T' f h) fr H) : ∀ (l1 : List (Nat × Bool)) (fr : Fr) (H : Heap),
    (∀ x ∈ l1, ∃ p, ops[x.1]? = some p /\ isR p.op = true /\ indep ops p o = true /\ (readsH p.op = true -> isR o.op = true \/ fl = true)) ->
    seqRX P N ops L T l1 fr H -> vstep P N ops o (fun f h => relX L o fl H h /\ seqRX P N ops L T' l1 f h) fr H
  | [], fr, H, _, h => hstep fr H h
  | (j, fj) :: l1, fr, H, hl, h => by
    obtain ⟨p, hp, hR, hin, hrd⟩ := hl (j, fj) (by simp)
    simp only [seqRX, hp] at h ⊢
    have hc1 := seqRX_closed (P := P) (N := N) (ops := ops) (L := L) hT l1
    have hc2 := seqRX_closed (P := P) (N := N) (ops := ops) (L := L) hT' l1
    obtain ⟨hoff, h⟩ := h
    obtain ⟨v, h1, h2⟩ := vstep_RX hR hc1 h
    have ih := frontX_gen hT hT' hstep l1 (fr.put p.dst v) H (fun x hx => hl x (by simp [hx])) h1
    obtain ⟨i1, i2, i3⟩ := indep_spec hin
    have hcK : Closed (fun f h => relX L o fl H h /\ seqRX P N ops L T' l1 f h) := fun f g h hfg hk => ⟨hk.1, hc2 _ _ _ hfg hk.2⟩
    have hag : agreeG ops o (fr.put p.dst v) fr := agreeG.symm (agreeG.put i1)
    refine vstep_weak (vstep_E hcK ih hag) ?_
    rintro f h' ⟨u, hf, hrel, hv⟩
    have hvE : vstep P N ops p (seqRX P N ops L T' l1) (fr.put o.dst u) h' := by
      refine h2 (fr.put o.dst u) h' _ hc2 (agreeG.put i2) (fun i hi b hb => ?_) ?_
      · rw [hrel (hrd (by cases hr : readsH p.op with | true => rfl | false => rw [rdBlk_none hr] at hi; cases hi)) i (hoff i hi), hb]
      exact hc2 _ _ _ (put_comm fr i3 v u) hv
    exact ⟨hrel, offL_congr (fun x => feq.ev hf x) (offL_agree (agreeG.put i2).agree hoff), vstep_closed hc2 hf hvE⟩

theorem eKX_rel {o : Oper} {fl : Bool} {T : Fr -> Heap -> Prop} {fr : Fr} {H : Heap} (hR : isR o.op = false) (h : vstep P N ops o (eKX L fl H T) fr H) : vstep P N ops o (fun f h => relX L o fl H h /\ T f h) fr H := by
  refine vstep_weak h ?_
  intro f h' hk
  cases fl with
  | true => exact ⟨fun _ => hk.1, hk.2⟩
  | false => exact ⟨fun e => by simp [hR] at e, hk⟩

theorem vFX_front (hK : Closed K) {n i : Nat} {fl : Bool} {l1 l2 : List (Nat × Bool)} {o : Oper} (ho : ops[i]? = some o) {fr : Fr} {H : Heap}
    (hl1 : ∀ x ∈ l1, ∃ p, ops[x.1]? = some p /\ isR p.op = true /\ indep ops p o = true /\ (readsH p.op = true -> isR o.op = true \/ fl = true))
    (h : vFX P N ops L fs K (l1.length + (n + 1)) (l1 ++ (i, fl) :: l2) fr H) : vstep P N ops o (fun f h => relX L o fl H h /\ vFX P N ops L fs K (l1.length + n) (l1 ++ l2) f h) fr H := by
  have hl1' : ∀ x ∈ l1, ∃ p, ops[x.1]? = some p /\ isR p.op = true := fun x hx => by obtain ⟨p, h1, h2, _⟩ := hl1 x hx; exact ⟨p, h1, h2⟩
  rw [vFX_seqRX l1 fr H hl1'] at h
  have hstep : ∀ fr H, vFX P N ops L fs K (n + 1) ((i, fl) :: l2) fr H -> vstep P N ops o (fun f h => relX L o fl H h /\ vFX P N ops L fs K n l2 f h) fr H := by
    intro fr H h
    simp only [vFX, ho] at h
    cases hR : isR o.op with
    | true =>
      simp only [hR] at h
      obtain ⟨_, h⟩ := h
      obtain ⟨v, h1, h2⟩ := vstep_RX hR (vFX_closed hK n l2) h
      refine h2 fr H _ ?_ (fun _ _ => rfl) (fun _ _ _ h => h) ⟨fun _ _ _ => rfl, h1⟩
      intro f g h hfg hk
      exact ⟨hk.1, vFX_closed hK n l2 _ _ _ hfg hk.2⟩
    | false => simp only [hR] at h; exact eKX_rel hR h.1
  refine vstep_weak (frontX_gen (vFX_closed hK _ _) (vFX_closed hK n l2) hstep l1 fr H hl1 h) ?_
  rintro f h' ⟨h1, h2⟩
  exact ⟨h1, (vFX_seqRX l1 f h' hl1').2 h2⟩
theorem vFX_float (hK : Closed K) {n i f : Nat} {fl : Bool} {r1 l2 : List (Nat × Bool)} {o o' : Oper} (ho : ops[i]? = some o) (hE : isR o.op = false) (hf : ops[f]? = some o') (hff : f ∈ fs) (hfl : f ∈ l2.map (·.1)) {fr : Fr} {H : Heap}
    (hl1 : ∀ x ∈ r1, ∃ p, ops[x.1]? = some p /\ isR p.op = true /\ indep ops p o' = true)
    (h : vFX P N ops L fs K (r1.length + (n + 1)) (r1 ++ (i, fl) :: l2) fr H) : vstep P N ops o' (fun f' h => relX L o' true H h /\ vFX P N ops L fs K (r1.length + n) (r1 ++ (i, fl) :: l2.filter fun y => y.1 != f) f' h) fr H := by
  have hl1' : ∀ x ∈ r1, ∃ p, ops[x.1]? = some p /\ isR p.op = true := fun x hx => by obtain ⟨p, h1, h2, _⟩ := hl1 x hx; exact ⟨p, h1, h2⟩
  rw [vFX_seqRX r1 fr H hl1'] at h
  have hstep : ∀ fr H, vFX P N ops L fs K (n + 1) ((i, fl) :: l2) fr H -> vstep P N ops o' (fun f' h => relX L o' true H h /\ vFX P N ops L fs K n ((i, fl) :: l2.filter fun y => y.1 != f) f' h) fr H := by
    intro fr H h
    simp only [vFX, ho, hE] at h
    obtain ⟨o2, h1, h2, h3⟩ := h.2 f hff hfl
    rw [hf] at h1; cases h1
    exact eKX_rel h2 h3
  refine vstep_weak (frontX_gen (vFX_closed hK _ _) (vFX_closed hK n _) hstep r1 fr H (fun x hx => by obtain ⟨p, h1, h2, h3⟩ := hl1 x hx; exact ⟨p, h1, h2, h3, fun _ => .inr rfl⟩) h) ?_
  rintro f h' ⟨h1, h2⟩
  exact ⟨h1, (vFX_seqRX r1 f h' hl1').2 h2⟩

theorem drawFX_any {B : Nat} {w0 : World} {Q : Exit -> Act -> World -> Prop} (hK : Closed K) (hedge : edgesOK ops = true) : ∀ (n : Nat) (listed : Array Bool) (l : List (Nat × Bool)) (fr : Fr) (H : Heap) (ρ : Rho) (w : World) (a : Act),
    listed.size = ops.size -> l.length = n -> pairsOKF ops fs (masksGo ops.toList []) l = true -> (∀ x ∈ l, x.1 < ops.size /\ listed.getD x.1 true = false) -> (∀ i, i < ops.size -> listed.getD i true = false -> ∃ x ∈ l, x.1 = i) ->
    (∀ (j : Nat) (o : Oper), ops[j]? = some o -> listed.getD j false = true -> ∀ e ∈ o.after.toList, Region.binds .any e = true -> listed.getD e.on false = true) ->
    vFX P N ops L fs K n l fr H -> R B w0 ρ H w -> FR N ρ fr a ->
    (∀ (ρ' : Rho) (fr' : Fr) (H' : Heap) (a' : Act) (w' : World), ρ <+: ρ' -> K fr' H' -> R B w0 ρ' H' w' -> FR N ρ' fr' a' -> Q .normal a' w') -> wpAny P .any ops Q n listed a w := by
  intro n
  have getD2 : ∀ (listed : Array Bool) (i : Nat), listed.size = ops.size -> i < ops.size -> listed.getD i true = listed.getD i false := by
    intro listed i h1 h2
    simp [Array.getD_eq_getD_getElem?, h1, h2]
  induction n with
  | zero =>
    intro listed l fr H ρ w a hsz hl hp hin hall hcl hv hR hF hq
    have : l = [] := List.eq_nil_of_length_eq_zero hl
    subst this
    refine ⟨?_, hq ρ fr H a w (List.prefix_refl _) hv hR hF⟩
    rw [List.eq_nil_iff_forall_not_mem]
    intro i hi
    simp only [Region.ready, List.mem_filter, List.mem_range, Bool.and_eq_true, Bool.not_eq_true'] at hi
    obtain ⟨x, hx, _⟩ := hall i hi.1 hi.2.1
    simp at hx
  | succ n ih =>
    intro listed l fr H ρ w a hsz hl hp hin hall hcl hv hR hF hq
    refine ⟨?_, ?_⟩
    · intro hnil
      exfalso
      match l, hl with
      | (i, fl) :: l, hl =>
        obtain ⟨h1, h2⟩ := hin (i, fl) (by simp)
        have hi : i ∈ Region.ready .any ops listed := by
          simp only [Region.ready, List.mem_filter, List.mem_range, Bool.and_eq_true, Bool.not_eq_true']
          refine ⟨h1, h2, ?_⟩
          rw [Array.getElem?_eq_getElem h1]
          simp only [Option.map_some, Option.getD_some, Array.all_eq_true']
          intro e he
          rw [Bool.or_eq_true, Bool.not_eq_true']
          by_cases hb : Region.binds .any e = true
          · right
            have hedge' := List.all_eq_true.1 hedge i (by simpa using h1)
            simp only [Array.getElem?_eq_getElem h1, List.all_eq_true] at hedge'
            have he' := hedge' e (by simpa using he)
            simp only [hb, Bool.not_true, Bool.false_or, Bool.and_eq_true, decide_eq_true_eq, bne_iff_ne, ne_eq] at he'
            rw [<- getD2 listed e.on hsz he'.1]
            cases hg : listed.getD e.on true with
            | true => rfl
            | false =>
              obtain ⟨x, hx, hxe⟩ := hall e.on he'.1 hg
              rcases List.mem_cons.1 hx with rfl | hx
              · exact absurd hxe.symm he'.2
              · have hpo := (pairsOKF_spec (l1 := []) hp).2.1 x hx
                have hx1 := (hin x (by simp [hx])).1
                simp only [pairOKF, Array.getElem?_eq_getElem h1, Array.getElem?_eq_getElem hx1, Bool.and_eq_true, Bool.not_eq_true'] at hpo
                have hd := hpo.1.1
                simp only [directTo, List.any_eq_false, Bool.and_eq_true, beq_iff_eq, not_and] at hd
                exact absurd hxe.symm (hd e (by simpa using he) hb)
          · left; simpa using hb
        rw [hnil] at hi
        simp at hi
    · intro i hi
      simp only [Region.ready, List.mem_filter, List.mem_range, Bool.and_eq_true, Bool.not_eq_true'] at hi
      obtain ⟨hilt, hnl, hrdy⟩ := hi
      rw [Array.getElem?_eq_getElem hilt] at hrdy
      simp only [Option.map_some, Option.getD_some, Array.all_eq_true'] at hrdy
      have ho : ops[i]? = some ops[i] := Array.getElem?_eq_getElem hilt
      obtain ⟨x, hx, hxi⟩ := hall i hilt hnl
      obtain ⟨l1, l2, rfl⟩ := List.append_of_mem hx
      obtain ⟨i', fl⟩ := x
      simp only at hxi
      subst hxi
      obtain ⟨hp1, hp2, hp3⟩ := pairsOKF_spec hp
      have hpre : ∀ e ∈ (ops[i']).after.toList, Region.binds .any e = true -> listed.getD e.on false = true := by
        intro e he hb
        have := hrdy e (by simpa using he)
        simpa [hb] using this
      have hdep : ∀ y ∈ l1, ¬ ((masksGo ops.toList []).getD i' 0).testBit y.1 = true := by
        intro y hy hb
        have := masks_sound (ops := ops) (fun j => listed.getD j false = true) hcl ops.toList [] (fun j _ => by simp) (fun j o p hj => by simp at hj) i' _ y.1 ho hb hpre
        obtain ⟨hy1, hy2⟩ := hin y (by simp [hy])
        rw [getD2 listed y.1 hsz hy1] at hy2
        rw [hy2] at this; cases this
      have hR1 : ∀ y ∈ l1, ∀ p, ops[y.1]? = some p -> isR p.op = true -> indep ops p ops[i'] = true /\ (readsH p.op = true -> isR (ops[i']).op = true \/ fl = true) := by
        intro y hy p hp' hRp
        have hy1 := (hin y (by simp [hy])).1
        have hpo := hp1 y hy
        have hd := hdep y hy
        simp only [pairOKF, hp', ho, Bool.and_eq_true] at hpo
        have hpo2 := hpo.2
        simp only [Bool.not_eq_true] at hd
        simp only [hRp, hd, Bool.false_or, Bool.or_false, Bool.and_eq_true, Bool.or_eq_true, Bool.not_eq_true'] at hpo2
        refine ⟨hpo2.1, fun hr => ?_⟩
        rcases hpo2.2 with (h | h) | h
        · exact .inl h
        · exact .inr h
        · rw [hr] at h; cases h
      have hE1 : ∀ y ∈ l1, ∀ p, ops[y.1]? = some p -> isR p.op = false -> i' ∈ fs /\ fl = true /\ isR (ops[i']).op = false := by
        intro y hy p hp' hRp
        have hpo := hp1 y hy
        have hd := hdep y hy
        simp only [pairOKF, hp', ho, Bool.and_eq_true] at hpo
        have hpo2 := hpo.2
        simp only [Bool.not_eq_true] at hd
        simp only [hRp, hd, Bool.false_or, Bool.and_eq_true, Bool.not_eq_true', List.contains_iff_mem] at hpo2
        exact ⟨hpo2.1.1, hpo2.1.2, hpo2.2⟩
      have hnd : ∀ y ∈ l1 ++ l2, y.1 ≠ i' := by
        intro y hy e
        rcases List.mem_append.1 hy with hy | hy
        · have hpo := hp1 y hy
          have hy1 := (hin y (by simp [hy])).1
          simp [pairOKF, Array.getElem?_eq_getElem hy1, ho, e] at hpo
        · have hpo := hp2 y hy
          have hy1 := (hin y (by simp [hy])).1
          simp [pairOKF, Array.getElem?_eq_getElem hy1, ho, e] at hpo
      have hstep : vstep P N ops ops[i'] (fun f h => relX L ops[i'] fl H h /\ vFX P N ops L fs K n (l1 ++ l2) f h) fr H := by
        simp only [List.length_append, List.length_cons] at hl
        rcases first_effect (ops := ops) l1 (fun x hx => ⟨_, Array.getElem?_eq_getElem (hin x (by simp [hx])).1⟩) with hall1 | ⟨r1, e, oe, r2, rfl, he1, he2, he3⟩
        · rw [show n = l1.length + l2.length by omega]
          rw [show n + 1 = l1.length + (l2.length + 1) by omega] at hv
          exact vFX_front hK ho (fun x hx => by obtain ⟨p, h1, h2⟩ := hall1 x hx; obtain ⟨h3, h4⟩ := hR1 x hx p h1 h2; exact ⟨p, h1, h2, h3, h4⟩) hv
        · obtain ⟨hif, hfl, hEi⟩ := hE1 e (by simp) oe he1 he2
          subst hfl
          simp only [List.length_append, List.length_cons] at hl
          rw [show n + 1 = r1.length + ((r2.length + 1 + l2.length) + 1) by omega, List.append_assoc, List.cons_append] at hv
          have hfilt : (r2 ++ (i', true) :: l2).filter (fun y => y.1 != i') = r2 ++ l2 := by
            rw [List.filter_append, List.filter_cons]
            simp only [bne_self_eq_false, Bool.false_eq_true, if_false]
            rw [List.filter_eq_self.2, List.filter_eq_self.2]
            · intro y hy; simpa using hnd y (by simp [hy])
            · intro y hy; simpa using hnd y (by simp [hy])
          have := vFX_float (f := i') hK he1 he2 ho hif (by simp) (fun x hx => by
            obtain ⟨p, h1, h2⟩ := he3 x hx
            exact ⟨p, h1, h2, (hR1 x (by simp [hx]) p h1 h2).1⟩) hv
          rw [hfilt] at this
          rw [show n = r1.length + (r2.length + 1 + l2.length) by omega, List.append_assoc, List.cons_append]
          exact this
      unfold wpOp
      rw [ho]
      refine vstep_sound hstep hR hF Q ?_
      rintro ρ' fr' H' a' w' hpre' ⟨_, hv'⟩ hR' hF'
      refine ih (listed.setIfInBounds i' true) (l1 ++ l2) fr' H' ρ' w' a' (by simpa using hsz) (by simp at hl ⊢; omega) hp3 ?_ ?_ ?_ hv' hR' hF' (fun ρ'' f'' H'' a'' w'' h1 => hq ρ'' f'' H'' a'' w'' (hpre'.trans h1))
      · intro y hy
        have hne := hnd y hy
        obtain ⟨h1, h2⟩ := hin y (by rcases List.mem_append.1 hy with hy | hy <;> simp [hy])
        exact ⟨h1, by rw [getD_set_ne _ (fun e => hne e.symm)]; exact h2⟩
      · intro j hj hnj
        by_cases e : i' = j
        · subst e
          exfalso
          have : (listed.setIfInBounds i' true).getD i' true = true := by simp [Array.getD_eq_getD_getElem?]
          rw [this] at hnj; cases hnj
        · rw [getD_set_ne _ e] at hnj
          obtain ⟨y, hy, rfl⟩ := hall j hj hnj
          refine ⟨y, ?_, rfl⟩
          rcases List.mem_append.1 hy with hy | hy
          · simp [hy]
          · rcases List.mem_cons.1 hy with rfl | hy
            · exact absurd rfl e
            · simp [hy]
      · intro j o hj hlj e he hb
        by_cases e' : i' = j
        · subst e'
          rw [ho] at hj; cases hj
          exact getD_set_true (hpre e he hb)
        · rw [getD_set_ne _ e'] at hlj
          exact getD_set_true (hcl j o hj hlj e he hb)

def vTX (P : Program) (N : Nat) (ops : Array Oper) (L : Nat) (K : Fr -> Heap -> Prop) : Tree -> Fr -> Heap -> Prop
  | .nil, fr, H => K fr H
  | .one i fl t, fr, H => match ops[i]? with
    | none => False
    | some o => match isR o.op with
      | true => offL L o.op fr /\ vstep P N ops o (vTX P N ops L K t) fr H
      | false => vstep P N ops o (eKX L fl H (vTX P N ops L K t)) fr H
  | .two i fl t f t', fr, H => match ops[i]?, ops[f]? with
    | some o, some o' => vstep P N ops o (eKX L fl H (vTX P N ops L K t)) fr H /\ vstep P N ops o' (eKX L true H (vTX P N ops L K t')) fr H
    | _, _ => False
theorem vTX_vFX : ∀ (t : Tree) (n : Nat) (l : List (Nat × Bool)) (fr : Fr) (H : Heap), l.length <= n -> (∀ x y, x ∈ l -> y ∈ l -> x.1 = y.1 -> x = y) -> treeOK ops fs t l = true -> vTX P N ops L K t fr H -> vFX P N ops L fs K n l fr H := by
  intro t
  induction t with
  | nil =>
    intro n l fr H hn _ hok h
    cases l with
    | nil => cases n <;> exact h
    | cons x l => simp [treeOK] at hok
  | one i fl t ih =>
    intro n l fr H hn hu hok h
    cases l with
    | nil => simp [treeOK] at hok
    | cons x l =>
      obtain ⟨j, fl'⟩ := x
      simp only [treeOK, Bool.and_eq_true, beq_iff_eq] at hok
      obtain ⟨⟨⟨rfl, rfl⟩, hfl⟩, hok⟩ := hok
      cases n with
      | zero => simp at hn
      | succ n =>
        simp only [List.length_cons] at hn
        have hu' : ∀ x y, x ∈ l -> y ∈ l -> x.1 = y.1 -> x = y := fun x y hx hy => hu x y (by simp [hx]) (by simp [hy])
        simp only [vTX] at h
        simp only [vFX]
        cases ho : ops[i]? with
        | none => simp [ho] at h
        | some o =>
          simp only [ho] at h hfl ⊢
          cases hR : isR o.op with
          | true => simp only [hR] at h ⊢; exact ⟨h.1, vstep_weak h.2 fun f h => ih n l f h (by omega) hu' hok⟩
          | false =>
            simp only [hR, Bool.false_or, List.all_eq_true] at h hfl ⊢
            refine ⟨vstep_weak h fun f h' hk => ?_, fun f hf hm => ?_⟩
            · cases fl with
              | true => exact ⟨hk.1, ih n l f h' (by omega) hu' hok hk.2⟩
              | false => exact ih n l f h' (by omega) hu' hok hk
            · have := hfl f hf
              simp only [Bool.not_eq_true', List.contains_eq_mem, decide_eq_false_iff_not] at this
              exact absurd hm this
  | two i fl t f t' ih ih' =>
    intro n l fr H hn hu hok h
    cases l with
    | nil => simp [treeOK] at hok
    | cons x l =>
      obtain ⟨j, fl'⟩ := x
      simp only [treeOK, Bool.and_eq_true, beq_iff_eq] at hok
      obtain ⟨⟨⟨⟨⟨rfl, rfl⟩, hE⟩, hfl⟩, hok⟩, hok'⟩ := hok
      cases n with
      | zero => simp at hn
      | succ n =>
        simp only [List.length_cons] at hn
        have hu' : ∀ x y, x ∈ l -> y ∈ l -> x.1 = y.1 -> x = y := fun x y hx hy => hu x y (by simp [hx]) (by simp [hy])
        simp only [vTX] at h
        simp only [vFX]
        cases ho : ops[i]? with
        | none => simp [ho] at h
        | some o =>
          cases ho' : ops[f]? with
          | none => simp [ho, ho'] at h
          | some o' =>
            simp only [ho, ho', Bool.and_eq_true, Bool.not_eq_true'] at h hE ⊢
            simp only [hE.1]
            refine ⟨vstep_weak h.1 fun g h' hk => ?_, fun g hg hm => ?_⟩
            · cases fl with
              | true => exact ⟨hk.1, ih n l g h' (by omega) hu' hok hk.2⟩
              | false => exact ih n l g h' (by omega) hu' hok hk
            · rw [List.all_eq_true] at hfl
              have hgf := hfl g hg
              simp only [Bool.or_eq_true, beq_iff_eq, Bool.not_eq_true', List.contains_eq_mem, decide_eq_false_iff_not] at hgf
              have : g = f := hgf.resolve_right (fun e => e hm)
              subst this
              refine ⟨o', ho', hE.2, vstep_weak h.2 fun q h' hk => ⟨hk.1, ih' n _ q h' ?_ ?_ hok' hk.2⟩⟩
              · obtain ⟨z, hz, hzg⟩ := List.mem_map.1 hm
                have : (l.filter fun y => y.1 != g).length < l.length := by
                  rw [List.length_filter_lt_length_iff_exists]
                  exact ⟨z, hz, by simp [hzg]⟩
                simp only [List.length_cons]; omega
              · intro x y hx hy
                refine hu x y ?_ ?_
                · rcases List.mem_cons.1 hx with rfl | hx
                  · simp
                  · exact List.mem_cons_of_mem _ (List.mem_filter.1 hx).1
                · rcases List.mem_cons.1 hy with rfl | hy
                  · simp
                  · exact List.mem_cons_of_mem _ (List.mem_filter.1 hy).1

theorem AWp.drawFX (L : Nat) {id : Nat} {fr : Fr} {H : Heap} {Q : Exit -> Fr -> Heap -> Prop} (hm : P.follows .mixedOrders = true) (fs : List Nat) (canon : List (Nat × Bool)) (t : Tree) (hok : (drawOKF ops fs canon && treeOK ops fs t canon) = true) (h : vTX P N ops L (Q .normal) t fr H) : AWp P N (.region id ops true) Q fr H := by
  intro B w0 ρ w a hR hF
  simp only [drawOKF, Bool.and_eq_true, decide_eq_true_eq, List.all_eq_true, List.mem_range, List.contains_iff_mem, List.mem_map] at hok
  obtain ⟨⟨⟨⟨⟨h1, h2⟩, h3⟩, h4⟩, h5⟩, h6⟩ := hok
  refine wp_region_any hm ?_
  let K : Fr -> Heap -> Prop := fun f h => ∃ g, feq g f /\ Q .normal g h
  have hK : Closed K := fun f g h hfg ⟨k, hk, hq⟩ => ⟨k, hk.trans hfg, hq⟩
  have hu : ∀ x y, x ∈ canon -> y ∈ canon -> x.1 = y.1 -> x = y := by
    intro x y hx hy e
    obtain ⟨l1, l2, rfl⟩ := List.append_of_mem hx
    obtain ⟨hp1, hp2, _⟩ := pairsOKF_spec h1
    rcases List.mem_append.1 hy with hy | hy
    · have := hp1 y hy
      unfold pairOKF at this
      split at this
      · simp [e] at this
      · cases this
    · rcases List.mem_cons.1 hy with rfl | hy
      · rfl
      · have := hp2 y hy
        unfold pairOKF at this
        split at this
        · simp [e] at this
        · cases this
  have hv : vFX P N ops L fs K ops.size canon fr H := by
    refine vTX_vFX t ops.size canon fr H (by omega) hu h6 ?_
    have weak : ∀ (t : Tree) (fr : Fr) (H : Heap), vTX P N ops L (Q .normal) t fr H -> vTX P N ops L K t fr H := by
      intro t
      induction t with
      | nil => exact fun fr H h => ⟨fr, feq.rfl' _, h⟩
      | one i fl t ih =>
        intro fr H h
        simp only [vTX] at h ⊢
        split at h
        · exact h
        · rename_i o ho
          cases hR : isR o.op with
          | true => simp only [hR] at h ⊢; exact ⟨h.1, vstep_weak h.2 ih⟩
          | false =>
            simp only [hR] at h ⊢
            refine vstep_weak h ?_
            intro f h' hk
            cases fl with
            | true => exact ⟨hk.1, ih _ _ hk.2⟩
            | false => exact ih _ _ hk
      | two i fl t f t' ih ih' =>
        intro fr H h
        simp only [vTX] at h ⊢
        split at h
        · rename_i o o' ho ho'
          refine ⟨vstep_weak h.1 ?_, vstep_weak h.2 fun f h' hk => ⟨hk.1, ih' _ _ hk.2⟩⟩
          intro f h' hk
          cases fl with
          | true => exact ⟨hk.1, ih _ _ hk.2⟩
          | false => exact ih _ _ hk
        · exact h
    exact weak t fr H h
  have hgt : ∀ i, i < ops.size -> (Array.replicate ops.size false).getD i true = false := by
    intro i hi
    simp [Array.getD_eq_getD_getElem?, hi]
  refine drawFX_any (B := B) (w0 := w0) hK h2 ops.size (Array.replicate ops.size false) canon fr H ρ w.drew a (by simp) h3 h1 ?_ ?_ ?_ hv hR.drew hF ?_
  · intro x hx
    exact ⟨h4 x hx, hgt x.1 (h4 x hx)⟩
  · intro i hi _
    obtain ⟨x, hx, rfl⟩ := h5 i hi
    exact ⟨x, hx, rfl⟩
  · intro j o hj hl
    rw [Array.getD_eq_getD_getElem?, Array.getElem?_replicate] at hl
    split at hl <;> simp at hl
  · rintro ρ' fr' H' a' w' hp ⟨g, hg, hq⟩ hR' hF'
    exact ⟨ρ', g, H', hp, hR', hF'.feq hg.symm, hq⟩

/-! The words of such a tree, for simp. -/

def vTXK (P : Program) (N : Nat) (ops : Array Oper) (L : Nat) (K : Fr -> Heap -> Prop) (t : Tree) (fr : Fr) (H : Heap) : Prop := vTX P N ops L K t fr H
def eTXK (P : Program) (N : Nat) (ops : Array Oper) (L : Nat) (K : Fr -> Heap -> Prop) (t : Tree) (fl : Bool) (H : Heap) (fr : Fr) (H' : Heap) : Prop :=
  match fl with
  | true => andK (KeepL L H H') (vTX P N ops L K t fr H')
  | false => vTX P N ops L K t fr H'
def vTXo (P : Program) (N : Nat) (ops : Array Oper) (L : Nat) (K : Fr -> Heap -> Prop) (t : Tree) (fl : Bool) (fr : Fr) (H : Heap) (o : Oper) : Prop :=
  match isR o.op with
  | true => andK (offB L o.op fr) (vstep P N ops o (vTXK P N ops L K t) fr H)
  | false => vstep P N ops o (eTXK P N ops L K t fl H) fr H
def vTXe (P : Program) (N : Nat) (ops : Array Oper) (L : Nat) (K : Fr -> Heap -> Prop) (t : Tree) (fl : Bool) (fr : Fr) (H : Heap) (o : Oper) : Prop := vstep P N ops o (eTXK P N ops L K t fl H) fr H

theorem vTX_nil (K : Fr -> Heap -> Prop) (fr : Fr) (H : Heap) : vTX P N ops L K .nil fr H = K fr H := rfl
theorem eTXK_eq (K : Fr -> Heap -> Prop) (t : Tree) (fl : Bool) (H : Heap) : eKX L fl H (vTX P N ops L K t) = eTXK P N ops L K t fl H := by
  funext f h
  cases fl <;> rfl
theorem vTX_one (K : Fr -> Heap -> Prop) (i : Nat) (fl : Bool) (t : Tree) (fr : Fr) (H : Heap) : vTX P N ops L K (.one i fl t) fr H = bindO ops[i]? (vTXo P N ops L K t fl fr H) := by
  simp only [vTX]
  cases ops[i]? with
  | none => simp [bindO]
  | some o =>
    simp only [bindO_some, vTXo]
    cases isR o.op with
    | true => rw [offB_iff]; rfl
    | false => simp only [eTXK_eq]
theorem vTX_two {i : Nat} {fl : Bool} {t : Tree} {f : Nat} {t' : Tree} {K : Fr -> Heap -> Prop} {fr : Fr} {H : Heap} (h1 : bindO ops[i]? (vTXe P N ops L K t fl fr H)) (h2 : bindO ops[f]? (vTXe P N ops L K t' true fr H)) : vTX P N ops L K (.two i fl t f t') fr H := by
  simp only [vTX]
  cases ho : ops[i]? with
  | none => simp [ho, bindO] at h1
  | some o =>
    cases ho' : ops[f]? with
    | none => simp [ho', bindO] at h2
    | some o' =>
      simp only [ho, ho', bindO_some, vTXe] at h1 h2 ⊢
      exact ⟨by rw [eTXK_eq]; exact h1, by rw [eTXK_eq]; exact h2⟩

attribute [go_sem] vTXK eTXK vTXo vTXe vTX_nil vTX_one

end
end Go.Ab
end
