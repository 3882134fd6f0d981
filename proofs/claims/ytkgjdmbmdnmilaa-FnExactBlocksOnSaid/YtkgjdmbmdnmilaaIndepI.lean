/- Independent sets: the tested program's side. -/
import Derived.Test.YtkgjdmbmdnmilaaIndep
set_option linter.all false
set_option maxRecDepth 20000
set_option maxHeartbeats 4000000
namespace Go.Proofs.Ytkgjdmbmdnmilaa
open Go.Ab

/-- A function value that tells of blocks. -/
def TellsF (g : FuncId) (fs cs : List Value) (Q : Bk → Prop) (P : Bk → Bool) (H : Heap) : Prop :=
  ∀ (H' : Heap) (x : Bk) (Post : Value → Heap → Prop), H <+: H' → Q x → (∀ H'', H' <+: H'' → Post (.bool (P x)) H'') → ACalls Try.prog g (fs ++ x.val :: cs) H' Post

theorem indexFuncB_ok {H : Heap} {u : Value} {xs : List Bk} {g : FuncId} {fs cs : List Value} {P : Bk → Bool} (hu : BlocksAt H u xs) (hf : TellsF g fs cs (· ∈ xs) P H) (Post : Value → Heap → Prop)
    (h : ∀ H' n, H <+: H' → IdxP xs P n → Post (.int .i64 n) H') : ACalls Try.prog 204 [u, .func (.func g) fs.toArray cs.toArray] H Post := by
  obtain ⟨i, o, rfl, h1, h2⟩ := hu
  refine acalls_vc (rs := [.tmp 4]) Try.func204 rfl rfl Try.ntmps204 rfl rfl ?_
  simp (maxSteps := 1000000) [go_sem]
  refine AWp.loopVc (fun s : Nat => [(0, lv 3 i o xs.length), (1, .func (.func g) fs.toArray cs.toArray), (7, .int .i64 xs.length), (8, .int .i64 s)])
    (fun s H' => s ≤ xs.length ∧ H <+: H' ∧ ∀ y ∈ xs.take s, P y = false) (fun s => xs.length - s) 0 ?_ ?_ ?_
  · simp [upF, Fr.get, Up.refl]
  · exact ⟨by omega, List.prefix_refl _, by simp⟩
  · rintro K s H' ⟨hs, hp, hall⟩ hK
    by_cases hlt : s < xs.length
    · have hx : xs[s]? = some xs[s] := List.getElem?_eq_getElem hlt
      have c1 := (h1.pre hp).bk hx
      simp only [Bk.cells] at c1
      have hw_s : IntKind.i64.wrap ((s : Int) + 1) = (s : Int) + 1 := i64w (by omega) (by omega)
      simp (maxSteps := 1000000) [go_sem, hlt, c1]
      refine hf H' xs[s] _ hp (List.getElem_mem hlt) ?_
      intro H2 hp2
      cases hP : P xs[s] with
      | true =>
        simp (maxSteps := 1000000) [go_sem]
        exact h H2 s (hp.trans hp2) (.inr ⟨s, xs[s], rfl, hx, hP, hall⟩)
      | false =>
        simp (maxSteps := 1000000) [go_sem, hw_s]
        refine hK (s + 1) _ _ (by omega) (by simp [upF, Fr.get, Up.refl]) ⟨by omega, hp.trans hp2, ?_⟩
        intro y hy
        rw [List.take_succ_eq_append_getElem hlt, List.mem_append] at hy
        rcases hy with hy | hy
        · exact hall y hy
        · simp at hy; subst hy; exact hP
    · have : s = xs.length := by omega
      subst this
      rw [List.take_length] at hall
      simp (maxSteps := 1000000) [go_sem]
      exact h H' (-1) hp (.inl ⟨rfl, hall⟩)

theorem containsFuncB_ok {H : Heap} {u : Value} {xs : List Bk} {g : FuncId} {fs cs : List Value} {P : Bk → Bool} (hu : BlocksAt H u xs) (hf : TellsF g fs cs (· ∈ xs) P H) (Post : Value → Heap → Prop)
    (h : ∀ H', H <+: H' → Post (.bool (xs.any P)) H') : ACalls Try.prog 181 [u, .func (.func g) fs.toArray cs.toArray] H Post := by
  refine acalls_vc (rs := [.tmp 4]) Try.func181 rfl rfl Try.ntmps181 rfl rfl ?_
  simp (maxSteps := 1000000) [go_sem]
  refine indexFuncB_ok hu hf _ ?_
  intro H' n hp hn
  have e := hn.pos
  simp (maxSteps := 1000000) [go_sem, e]
  exact h H' hp


theorem setOf_ok {H : Heap} {v : Value} {xs : List Int} (hv : IntsAt H v xs) (hx : ∀ x ∈ xs, 0 ≤ x ∧ x < 60) (Post : Value → Heap → Prop) (h : Post (.int .u64 (maskL xs)) H) :
    ACalls Try.prog 126 [v] H Post := by
  obtain ⟨i, o, rfl, h1, h2⟩ := hv
  refine acalls_vc (rs := [.tmp 2]) Try.func126 rfl rfl Try.ntmps126 rfl rfl ?_
  simp (maxSteps := 1000000) [go_sem]
  refine AWp.loopVc (fun s : Nat => [(6, lv 1 i o xs.length), (7, .int .i64 xs.length), (3, .int .u64 (maskL (xs.take s))), (8, .int .i64 s)])
    (fun s H' => s ≤ xs.length ∧ H' = H) (fun s => xs.length - s) 0 ?_ ?_ ?_
  · simp [upF, Fr.get, Up.refl, maskL]
  · simp
  · rintro K s H' ⟨hs, rfl⟩ hK
    by_cases hlt : s < xs.length
    · have c1 := h1.cell (k := s) (v := .int .i64 xs[s]) (by simp [ints_get, hlt])
      obtain ⟨x0, x1⟩ := hx xs[s] (List.getElem_mem hlt)
      obtain ⟨n, hn⟩ : ∃ n : Nat, xs[s] = n := ⟨xs[s].toNat, by omega⟩
      rw [hn] at c1 x0 x1
      have hw_s : IntKind.i64.wrap ((s : Int) + 1) = (s : Int) + 1 := i64w (by omega) (by omega)
      have hsn : maskL (xs.take (s + 1)) = maskL (xs.take s) ||| 2 ^ n := by rw [List.take_succ_eq_append_getElem hlt, maskL_snoc, hn, Int.toNat_natCast]
      have hm1 : maskL (xs.take s) < 2 ^ 62 := Nat.lt_of_lt_of_le (maskL_lt (n := 60) fun x hx' => hx x (List.mem_of_mem_take hx')) (Nat.pow_le_pow_right (by omega) (by omega))
      have hm2 : 2 ^ n < 2 ^ 62 := Nat.pow_lt_pow_right (by omega) (by omega)
      have hcast : ((2 : Int) ^ n) = ((2 ^ n : Nat) : Int) := by rw [Int.natCast_pow]; rfl
      have hmin : min n 64 = n := by omega
      obtain ⟨T, hT⟩ : ∃ T, T = 2 ^ n := ⟨_, rfl⟩
      rw [← hT] at hcast hm2 hsn
      have hsh : IntKind.u64.wrap ((2 : Int) ^ n) = T := by rw [hcast, IntKind.wrap_u64]; omega
      have hor := or_u64w hm1 hm2
      simp (maxSteps := 1000000) [go_sem, hlt, c1, hw_s, hmin, hsh, hor]
      exact hK (s + 1) _ _ (by omega) (by simp [upF, Fr.get, Up.refl, hsn]) ⟨by omega, rfl⟩
    · have : s = xs.length := by omega
      subst this
      simp (maxSteps := 1000000) [go_sem]
      exact h

theorem blockSet_ok {H : Heap} {b : Bk} {p : Int} (hg : good p b = true) (hp : p ≤ 15) (Post : Value → Heap → Prop) (h : ∀ H', H <+: H' → Post (.int .u64 (bm b)) H') :
    ACalls Try.prog 183 [b.val] H Post := by
  obtain ⟨x, y, z, rfl, hxy, hyz, hz⟩ := good_nat hg hp
  refine acalls_vc (rs := [.tmp 2]) Try.func183 rfl rfl Try.ntmps183 rfl rfl ?_
  simp (maxSteps := 1000000) [go_sem, Bk.val]
  have hp0 : H <+: H ++ [⟨[.int .i64 x, .int .i64 y, .int .i64 z], true, true⟩] := List.prefix_append _ _
  refine ACalls.up (args' := [lv 1 H.length 0 3]) ⟨Up.ex (by omega) (.inr (by simp [go_sem])), trivial⟩ ?_
  refine setOf_ok (xs := [x, y, z]) ⟨H.length, 0, rfl, Holds.at ⟨true, by simp [ints]⟩, by simp⟩ (by intro w hw; simp at hw; omega) _ ?_
  simp (maxSteps := 1000000) [go_sem]
  exact h _ hp0

theorem isIndependentI_ok {H : Heap} {u : Value} {p : Int} {m : Nat} {bs : List Bk} (hu : BlocksAt H u bs) (hg : ∀ x ∈ bs, good p x = true) (hp : p ≤ 15) (hm : m < 2 ^ 60) (Post : Value → Heap → Prop)
    (h : ∀ H', H <+: H' → Post (.bool (indep bs m)) H') : ACalls Try.prog 125 [sysV p u, .int .u64 m] H Post := by
  refine acalls_vc (rs := [.tmp 4]) Try.func125 rfl rfl Try.ntmps125 rfl rfl ?_
  simp (maxSteps := 1000000) [go_sem, sysV, hu.one]
  have hp0 : H <+: H ++ [⟨[.int .i64 p, u], true, true⟩, ⟨[.int .u64 m], true, true⟩] := List.prefix_append _ _
  have hx0 : Holds (H ++ [⟨[.int .i64 p, u], true, true⟩, ⟨[.int .u64 m], true, true⟩]) H.length [.int .i64 p, u] := ⟨true, by simp⟩
  have hx1 : Holds (H ++ [⟨[.int .i64 p, u], true, true⟩, ⟨[.int .u64 m], true, true⟩]) (H.length + 1) [.int .u64 m] := ⟨true, by simp⟩
  generalize H ++ [(⟨[.int .i64 p, u], true, true⟩ : Blk), ⟨[.int .u64 m], true, true⟩] = H0 at hp0 hx0 hx1 ⊢
  refine containsFuncB_ok (fs := []) (cs := [.pointer (some ⟨H.length + 1, 0, none⟩)]) (P := inSet m) (hu.pre hp0) ?_ _ ?_
  · intro H' x Post' hp' hmem hP
    simp only [List.nil_append]
    refine acalls_vc (rs := [.tmp 3]) Try.func182 rfl rfl Try.ntmps182 rfl rfl ?_
    simp (maxSteps := 1000000) [go_sem, Bk.val]
    refine AWp.draw mixed [(0, false), (2, false), (1, true), (3, false), (4, false), (5, false)] (by kernel_rfl) ?_
    have hpb : H' <+: H' ++ [⟨[.int .i64 x.a, .int .i64 x.b, .int .i64 x.c], true, true⟩] := List.prefix_append _ _
    obtain ⟨e0, e1, e2, e3⟩ := (Holds.last H' [.int .i64 x.a, .int .i64 x.b, .int .i64 x.c]).bk
    have c1 : cellsAt (H' ++ [⟨[.int .i64 x.a, .int .i64 x.b, .int .i64 x.c], true, true⟩]) (H.length + 1) 0 1 = some [.int .u64 m] := (hx1.pre (hp'.trans hpb)).cell rfl
    simp (maxSteps := 1000000) [go_sem, e0, c1]
    refine blockSet_ok (b := x) (hg x hmem) hp _ ?_
    intro H2 hp2
    have hbm := bm_lt (hg x hmem) hp
    have han := andNot_u64 (a := bm x) (b := m) (by omega) (by omega)
    simp (maxSteps := 1000000) [go_sem]
    have h3 := hP H2 (hpb.trans hp2)
    unfold inSet at h3
    rw [← han] at h3
    exact andK_intro hp2 h3
  intro H' hp'
  simp (maxSteps := 1000000) [go_sem]
  have e : (!bs.any (inSet m)) = indep bs m := by simp [indep, List.any_eq_not_all_not]
  simpa [e] using h H' (hp0.trans hp')

theorem implIsIndependent_ok {H : Heap} {u v : Value} {p : Int} {bs : List Bk} {xs : List Int} (hu : BlocksAt H u bs) (hl : bs.length ≤ 1048576) (hv : IntsAt H v xs) (hl' : xs.length ≤ 1048576) (hw : ∀ x ∈ xs, In64 x) (Post : Value → Heap → Prop)
    (h : ∀ H', H <+: H' → Post (.tuple #[.bool (rIndep p bs xs).1, .int .i64 (rIndep p bs xs).2]) H') : ACalls Try.prog 68 [sysV p u, v] H Post := by
  refine acalls_vc (rs := [.tmp 4, .tmp 5]) Try.func68 rfl rfl Try.ntmps68 rfl rfl ?_
  simp (maxSteps := 1000000) [go_sem, sysV, hu.one]
  have hp0 : H <+: H ++ [⟨[.int .i64 p, u], true, true⟩] := List.prefix_append _ _
  have hx0 := Holds.last H [.int .i64 p, u]
  generalize H ++ [(⟨[.int .i64 p, u], true, true⟩ : Blk)] = H0 at hp0 hx0 ⊢
  refine implSetCode_ok (hu.pre hp0) (hv.pre hp0) _ ?_
  intro H1 hp1
  obtain ⟨d0, d1, d2⟩ := (hx0.pre hp1).sys
  by_cases hc : setCode p bs xs = 0
  · obtain ⟨hS, hr⟩ := setCode_zero hc
    have hp := hS.1
    simp (maxSteps := 1000000) [go_sem, hc]
    refine AWp.draw mixed [(0, false), (1, false), (2, true), (3, false), (4, false), (5, false)] (by kernel_rfl) ?_
    simp (maxSteps := 1000000) [go_sem, d0]
    refine setOf_ok (hv.pre (hp0.trans hp1)) (fun x hx => by have := hr.mem x hx; omega) _ ?_
    have hm : maskL xs < 2 ^ 15 := maskL_lt (fun x hx => by have := hr.mem x hx; omega)
    simp (maxSteps := 1000000) [go_sem]
    refine isIndependentI_ok (hu.pre (hp0.trans hp1)) hS.good hp.2 (by omega) _ ?_
    intro H2 hp2
    simp (maxSteps := 1000000) [go_sem]
    simpa [rIndep, hc] using h H2 (hp0.trans (hp1.trans hp2))
  · have he : (setCode p bs xs != 0) = true := by simpa using hc
    simp (maxSteps := 1000000) [go_sem, he]
    simpa [rIndep, hc] using h H1 (hp0.trans hp1)

end Go.Proofs.Ytkgjdmbmdnmilaa
