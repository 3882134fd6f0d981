/- The law on SquareOf, in abstract terms: its code returns true. It holds for every number. -/
import Derived.Test.YtkgjdmbmdnmilaaSquare
set_option linter.all false
set_option maxRecDepth 20000
namespace Go.Proofs.Ytkgjdmbmdnmilaa
open Go.Ab

/-- An argument: a number. -/
def shInt : Shape := ⟨2, false, cInt .i64⟩
theorem fits_shInt {D : Type} {enc : TypeId × Value → D} (W : World) : shInt.fits enc Try.prog W :=
  ⟨cInt_stable _, open_cInt Try.underlying2, by show (match Try.prog.underlying 2 with | _ => _); rw [Try.underlying2]; rfl⟩
theorem says_shInt {H : Heap} {v : Value} (h : shInt.says H v) : ∃ n : Int, v = .int .i64 n ∧ (Lit.int .i64 n).wf = true := by
  obtain ⟨n, h1, h2⟩ := h
  simp only [List.cons.injEq, and_true] at h1
  exact ⟨n, h1, h2⟩

theorem sqRows_total {n : Nat} (h : n ≤ 5) : (sqRows n n).flatten.length ≤ 25 := by
  have : n = 0 ∨ n = 1 ∨ n = 2 ∨ n = 3 ∨ n = 4 ∨ n = 5 := by omega
  rcases this with rfl | rfl | rfl | rfl | rfl | rfl <;> decide

theorem lawFnExactSquareOf (H : Heap) (avs : List Value) (h : argsSay [shInt] H avs) : ACalls Try.prog 4 avs H fun v _ => v = .bool true := by
  obtain ⟨v, us, rfl, hv, rfl⟩ := h
  obtain ⟨n, rfl, hn⟩ := says_shInt hv
  refine acalls_vc (rs := [.tmp 2]) Try.func4 rfl rfl Try.ntmps4 rfl rfl ?_
  simp (maxSteps := 1000000) [go_sem]
  -- what a call gives, good or bad
  obtain ⟨xss, hx⟩ : ∃ xss : List (List Int), xss = if 2 ≤ n ∧ n ≤ 5 then sqRows n.toNat n.toNat else [] := ⟨_, rfl⟩
  obtain ⟨c, hc⟩ : ∃ c : Int, c = if 2 ≤ n ∧ n ≤ 5 then 0 else 2 := ⟨_, rfl⟩
  have htot : xss.flatten.length ≤ 25 := by
    rw [hx]; split
    · exact sqRows_total (by omega)
    · simp
  have spec : ∀ {H : Heap} {Post : Value → Heap → Prop}, (∀ (H' : Heap) (v : Value) (rows : List (Nat × List Int)), H <+: H' → OwnRows H' v rows → (∀ r ∈ rows, H.length ≤ r.1) → rows.map (·.2) = xss → Post (.tuple #[v, .int .i64 c]) H') → ACalls Try.prog 25 [.int .i64 n] H Post := by
    intro H Post hp
    refine specSquareOf_ok _ (fun hb => ?_) (fun H' v rows h1 h2 h3 h4 h5 h6 => ?_)
    · have := hp H (lv 1 0 0 0) [] (List.prefix_refl _) (OwnRows.nil H) (by simp) (by rw [hx, if_neg hb]; rfl)
      rwa [hc, if_neg hb] at this
    · have := hp H' v rows h3 h4 h5 (by rw [hx, if_pos ⟨h1, h2⟩]; exact h6)
      rwa [hc, if_pos ⟨h1, h2⟩] at this
  have impl : ∀ {H : Heap} {Post : Value → Heap → Prop}, (∀ (H' : Heap) (v : Value) (rows : List (Nat × List Int)), H <+: H' → OwnRows H' v rows → (∀ r ∈ rows, H.length ≤ r.1) → rows.map (·.2) = xss → Post (.tuple #[v, .int .i64 c]) H') → ACalls Try.prog 26 [.int .i64 n] H Post := by
    intro H Post hp
    refine implSquareOf_ok _ (fun hb => ?_) (fun H' v rows h1 h2 h3 h4 h5 h6 => ?_)
    · have := hp H (lv 1 0 0 0) [] (List.prefix_refl _) (OwnRows.nil H) (by simp) (by rw [hx, if_neg hb]; rfl)
      rwa [hc, if_neg hb] at this
    · have := hp H' v rows h3 h4 h5 (by rw [hx, if_pos ⟨h1, h2⟩]; exact h6)
      rwa [hc, if_pos ⟨h1, h2⟩] at this
  clear hx hc
  obtain ⟨T, hT⟩ : ∃ T, T = xss.flatten.length := ⟨_, rfl⟩
  refine spec ?_
  intro H1 w rw_ hp1 ho1 hf1 hc1
  simp (maxSteps := 1000000) [go_sem]
  refine impl ?_
  intro H2 g rg hp2 ho2 hf2 hc2
  simp (maxSteps := 1000000) [go_sem]
  have hw1 := hc1 ▸ ho1.read
  refine eqInt64SS_ok (hc2 ▸ ho2.read) (hw1.pre hp2) _ ?_
  simp (maxSteps := 1000000) [go_sem]
  refine markInt64SS_ok ho2 (by omega) (by rw [hc2]; omega) _ ?_
  intro H3 hl3 hs3 hm3
  rw [hc2] at hm3 ⊢
  rw [← hT]
  have hp3 : H1 <+: H3 := ((Same.of_prefix hp2).trans hs3).prefix (by
    rintro j hj ⟨r, hr, _, e⟩
    have := hf2 r hr
    omega)
  simp (maxSteps := 1000000) [go_sem]
  refine heldInt64SS_ok hm3 (by omega) (by omega) _ ?_
  rw [← hT]
  have hneg : decide (1 + (T : Int) < 0) = false := by simp; omega
  simp (maxSteps := 1000000) [go_sem, hneg]
  refine impl ?_
  intro H4 h rh hp4 ho4 hf4 hc4
  simp (maxSteps := 1000000) [go_sem]
  refine eqInt64SS_ok (hc4 ▸ ho4.read) (hw1.pre (hp3.trans hp4)) _ ?_
  simp (maxSteps := 1000000) [go_sem]
  refine heldInt64SS_ok (hm3.pre hp4) (by omega) (by omega) _ ?_
  rw [← hT]
  simp (maxSteps := 1000000) [go_sem, hneg]

end Go.Proofs.Ytkgjdmbmdnmilaa
