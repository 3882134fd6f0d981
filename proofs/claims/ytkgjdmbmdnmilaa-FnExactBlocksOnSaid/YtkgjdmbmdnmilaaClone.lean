/- slices.Clone and own copies of lists of numbers. -/
import Derived.Test.YtkgjdmbmdnmilaaTake
import Derived.Test.YtkgjdmbmdnmilaaAbNil
set_option linter.all false
set_option maxRecDepth 20000
namespace Go.Proofs.Ytkgjdmbmdnmilaa
open Go.Ab

theorem ints_src {H : Heap} {i o : Nat} {xs : List Int} (h : At H i o (ints xs)) : srcCells H 1 (lv 1 i o xs.length) = some (ints xs) := h.src (by rw [ints_length]; omega) (by omega) _

theorem _root_.Go.Ab.OE.readI {L : Nat} {H : Heap} {v : Value} {xs : List Int} (h : OE 1 L H v (ints xs) xs.length) (hx : xs ≠ []) (hl : xs.length ≤ 140737488355328) : IntsAt H v xs := by
  have hn : xs.length ≠ 0 := by simpa using hx
  rcases h.2 with ⟨h0, _⟩ | ⟨id, h0, _⟩ | ⟨id, h1, rfl, h2⟩
  · exact absurd h0 hn
  · exact absurd h0 hn
  · rcases h2 with ⟨h0, _⟩ | h2
    · exact absurd h0 hn
    · exact ⟨id, 0, rfl, Holds.at ⟨true, h2⟩, hl⟩

theorem l01Own_oe {H : Heap} {u : Value} {xs : List Int} (hu : IntsAt H u xs) (hl : xs.length ≤ 1048576) (Post : Value → Heap → Prop) (h : ∀ H' w, H <+: H' → OE 1 H.length H' w (ints xs) xs.length → Post w H') :
    ACalls Try.prog 98 [u] H Post := by
  obtain ⟨i, o, rfl, h1, h2⟩ := hu
  refine acalls_vc (rs := [.tmp 2]) Try.func98 rfl rfl Try.ntmps98 rfl rfl ?_
  have hp0 : H <+: H ++ [⟨[], true, true⟩] := List.prefix_append _ _
  have hsrc := ints_src (h1.pre hp0)
  simp only [srcCells, Nat.mul_one] at hsrc
  have he0 : OE 1 H.length (H ++ [(⟨[], true, true⟩ : Blk)]) (.slice (some ⟨H.length, 0, none⟩) 0 0) [] 0 := OE.empty (Nat.le_refl _) (by simp)
  obtain ⟨v, H2, hap, he2, hk2, hl2⟩ := he0.append (m := xs.length) (news := ints xs) (by omega) (by simp) (by rw [ints_length]; omega)
  generalize hm : xs.length = m at *
  simp (maxSteps := 1000000) [go_sem, hsrc, hap]
  refine andK_intro (by omega) ?_
  simp only [List.nil_append, Nat.zero_add] at he2
  exact h H2 v (KeepL.prefix hp0 (Nat.le_refl _) hk2 hl2) he2

theorem l01Own_ok {H : Heap} {u : Value} {xs : List Int} (hu : IntsAt H u xs) (hl : xs.length ≤ 1048576) (Post : Value → Heap → Prop) (h : ∀ H' w, H <+: H' → IntsIn H.length H'.length H' w xs → Post w H') :
    ACalls Try.prog 98 [u] H Post := by
  refine ACalls.res (l01Own_oe hu hl _ fun H' v hp he => ?_)
  obtain ⟨w, hup, hw⟩ := he.ints (by omega)
  exact ⟨w, hup, h H' w hp hw⟩

theorem cloneI_oe {H : Heap} {u : Value} {xs : List Int} (hu : IntsAt H u xs) (hl : xs.length ≤ 1048576) (Post : Value → Heap → Prop) (h : ∀ H' w, H <+: H' → OE 1 H.length H' w (ints xs) xs.length → Post w H') :
    ACalls Try.prog 167 [u] H Post := by
  obtain ⟨i, o, rfl, h1, h2⟩ := hu
  by_cases hx : xs = []
  · subst hx
    refine acalls_body Try.func167 rfl rfl (by rw [Try.ntmps167]; exact Nat.le_of_ble_eq_true rfl) ?_
    rw [Try.ntmps167]
    refine AWp.seq (vc_sound _ _ _ _ ?_)
    simp (maxSteps := 1000000) [go_sem]
    refine AWp.seq (AWp.seq (AWp.regionS ?_))
    refine StepOK.of_v ?_
    simp (maxSteps := 1000000) [go_sem]
    refine StepOK.of_op rfl (ok_eqlNil2 rfl Try.underlying50 rfl rfl (by show (4 : Nat) < 8; decide) (fun b => ?_))
    refine AWp.cond (b := b) (by cases b <;> rfl) (fun _ => ?_) (fun _ => ?_)
    · refine vc_sound _ _ _ _ ?_
      simp (maxSteps := 1000000) [go_sem]
      exact h H _ (List.prefix_refl _) (OE.nil _ _ _)
    · refine vc_sound _ _ _ _ ?_
      simp (maxSteps := 1000000) [go_sem]
      refine vc_sound _ _ _ _ ?_
      simp (maxSteps := 1000000) [go_sem, appendH]
      exact h _ _ (List.prefix_append _ _) (OE.empty (Nat.le_refl _) (by simp))
  · have hp0 : H <+: H ++ [⟨[], true, true⟩] := List.prefix_append _ _
    have hsrc := ints_src (h1.pre hp0)
    simp only [srcCells, Nat.mul_one] at hsrc
    have he0 : OE 1 H.length (H ++ [(⟨[], true, true⟩ : Blk)]) (.slice (some ⟨H.length, 0, none⟩) 0 0) [] 0 := OE.empty (Nat.le_refl _) (by simp)
    obtain ⟨v, H2, hap, he2, hk2, hl2⟩ := he0.append (m := xs.length) (news := ints xs) (by omega) (by simp) (by rw [ints_length]; omega)
    have hm0 : xs.length ≠ 0 := by simpa using hx
    generalize hm : xs.length = m at *
    refine acalls_vc (rs := [.tmp 2]) Try.func167 rfl rfl Try.ntmps167 rfl rfl ?_
    have hnil : nilOK (some ⟨i, o, some 1⟩) m = true := by simpa [nilOK] using hm0
    simp (maxSteps := 1000000) [go_sem, hnil, hsrc, hap]
    refine andK_intro (by omega) ?_
    simp only [List.nil_append, Nat.zero_add] at he2
    exact h H2 v (KeepL.prefix hp0 (Nat.le_refl _) hk2 hl2) he2

theorem cloneI_ok {H : Heap} {u : Value} {xs : List Int} (hu : IntsAt H u xs) (hl : xs.length ≤ 1048576) (Post : Value → Heap → Prop) (h : ∀ H' w, H <+: H' → IntsIn H.length H'.length H' w xs → Post w H') :
    ACalls Try.prog 167 [u] H Post := by
  refine ACalls.res (cloneI_oe hu hl _ fun H' v hp he => ?_)
  obtain ⟨w, hup, hw⟩ := he.ints (by omega)
  exact ⟨w, hup, h H' w hp hw⟩

end Go.Proofs.Ytkgjdmbmdnmilaa
