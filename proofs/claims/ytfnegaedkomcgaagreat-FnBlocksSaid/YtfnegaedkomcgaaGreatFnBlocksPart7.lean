/- Part 7 of what the proof of the law FnBlocks rests on: contracts of functions of the program, for every argument that each names; no statement of the seat is proved here. -/
import Derived.RangeFuncBox
import Derived.RangeFuncLeaves
import Derived.Shelf.Abstract
import Derived.WalkKit
import Derived.OwnWalkIn
import Derived.TacticsInMore
import Derived.LoopNIn
import Derived.LoopIn
import Derived.Maps.AppendAt
import Derived.Test.YtfnegaedkomcgaaGreatProg
import Derived.Test.YtfnegaedkomcgaaGreatFnBlocksPart6

set_option linter.all false
set_option maxRecDepth 20000
set_option maxHeartbeats 8000000
section
namespace Go.Proofs.YtfnegaedkomcgaaGreat
open Go.Ab

theorem At.take_ints {H : Heap} {i o : Nat} {xs : List Int} (h : At H i o (ints xs)) {k : Nat} (hk : k <= xs.length) : At H i o (ints (xs.take k)) := by
  by_cases h0 : k = 0
  · subst h0; exact .inl rfl
  · right
    have e : ints (xs.take k) = (ints xs).take k := by simp [ints, List.map_take]
    have := h.sub (k := 0) (n := k) (by omega) (by rw [ints_length]; omega)
    rw [ints_length, List.length_take, Nat.min_eq_left hk, e]
    simpa using this
theorem At.drop_ints {H : Heap} {i o : Nat} {xs : List Int} (h : At H i o (ints xs)) {k : Nat} (hk : k <= xs.length) : At H i (o + k) (ints (xs.drop k)) := by
  by_cases h0 : k = xs.length
  · subst h0; left; simp [ints]
  · right
    have e : ints (xs.drop k) = (ints xs).drop k := by simp [ints, List.map_drop]
    have := h.sub (k := k) (n := xs.length - k) (by omega) (by rw [ints_length]; omega)
    rw [ints_length, List.length_drop, e, this, List.take_of_length_le (by rw [List.length_drop, ints_length]; omega)]
theorem ordL_insert {k r : Nat} {xs : List Int} (h : OrdL k xs) (hr : r <= k) : OrdL ((k + 1 : Nat) : Int) (xs.take r ++ [(k : Int)] ++ xs.drop r) := by
  obtain ⟨h1, h2, h3⟩ := h
  have hp : (xs.take r ++ [(k : Int)] ++ xs.drop r).Perm ((k : Int) :: xs) := by
    rw [List.append_assoc]
    have := List.perm_middle (a := (k : Int)) (l₁ := xs.take r) (l₂ := xs.drop r)
    rw [List.take_append_drop] at this
    exact this
  have hnk : (k : Int) ∉ xs := fun hm => by have := h3 _ hm; omega
  refine ⟨?_, hp.nodup_iff.2 (List.nodup_cons.2 ⟨hnk, h2⟩), fun x hx => ?_⟩
  · rw [hp.length_eq, List.length_cons]; omega
  · rcases List.mem_cons.1 (hp.mem_iff.1 hx) with rfl | hx
    · omega
    · have := h3 x hx; omega

theorem drawOrder_ok {L s : Nat} {H : Heap} (hs : Src L s H) {n : Nat} (hn : n <= 1000) (Post : Value -> Heap -> Prop)
    (h : ∀ (H' : Heap) (w : Value) (xs : List Int), Same (fun j => j = s) H H' -> Src L s H' -> IntsIn H.length H'.length H' w xs -> OrdL n xs -> Post w H') :
    ACalls Tryz.prog 67 [.pointer (some ⟨s, 0, none⟩), .int .i64 n] H Post := by
  refine ACalls.res ?_
  have hslt := hs.lt
  have hLs := hs.1
  refine acalls_vc (rs := [.tmp 4]) Tryz.func67 rfl rfl Tryz.ntmps67 rfl rfl ?_
  simp (maxSteps := 1000000) [go_sem]
  have hp0 : H <+: H ++ [⟨[], true, true⟩] := List.prefix_append _ _
  have hl0 : (H ++ [(⟨[], true, true⟩ : Blk)]).length = H.length + 1 := by simp
  generalize H ++ [(⟨[], true, true⟩ : Blk)] = H0 at hp0 hl0 ⊢
  refine AWp.loopVc (St := Nat × Nat × List Int) (fun q => [(0, .pointer (some ⟨s, 0, none⟩)), (1, .int .i64 n), (5, lv 1 q.2.1 0 q.2.2.length), (6, .int .i64 q.1)])
    (fun q H' => q.2.1 < H'.length /\ q.1 <= n /\ OrdL q.1 q.2.2 /\ IntsIn H.length H'.length H' (lv 1 q.2.1 0 q.2.2.length) q.2.2 /\ Same (fun j => j = s) H H' /\ Src L s H') (fun q => n - q.1) (0, 0, []) ?_ ?_ ?_
  · simp [upF, Fr.get, Up.refl, Up.ex0]
  · exact ⟨by simp only; omega, by omega, ⟨by simp, by simp, by simp⟩, IntsIn.nil _ _ _, Same.of_prefix hp0, hs.pre hp0⟩
  · rintro K ⟨k, id, xs⟩ H1 ⟨hid, hk, hO, hI, hsm, hS⟩ hK
    simp only at hid hk hO hI
    have hxl : xs.length = k := by have := hO.1; omega
    by_cases hlt : k < n
    · have hw_k : IntKind.i64.wrap ((k : Int) + 1) = (k : Int) + 1 := i64w (by omega) (by omega)
      simp (maxSteps := 1000000) [go_sem, hlt, hw_k]
      refine next_ok hS _ ?_
      intro H2 r hs2 hl2 hS2 h0 h1
      obtain ⟨r, rfl⟩ : ∃ m : Nat, r = m := ⟨r.toNat, by omega⟩
      have hr : r <= k := by omega
      have hI2 := hI.keep hs2 (by rintro j ⟨a, b⟩ e; omega)
      obtain ⟨id0, ⟨e0, hat, hsz⟩, hsp⟩ := hI2
      have eid : id0 = id := by simp at e0; exact e0.symm
      subst eid
      have hat2 : At H2 id0 0 (ints xs) := by
        rcases hat with hat | hat
        · left; rw [hat]; rfl
        · exact Holds.at ⟨true, hat⟩
      have hr2 : r <= xs.length := by omega
      simp (maxSteps := 1000000) [go_sem]
      refine AWp.drawFX (H2.length) mixed [5] [(0, false), (1, false), (2, false), (4, false), (7, false), (8, false), (9, false), (3, true), (5, true), (6, true), (10, false), (11, false)] (.one 0 false (.one 1 false (.one 2 false (.one 4 false (.one 7 false (.one 8 false (.one 9 false (.two 3 true (.one 5 true (.one 6 true (.one 10 false (.one 11 false .nil)))) 5 (.one 3 true (.one 6 true (.one 10 false (.one 11 false .nil)))))))))))) (by kernel_rfl) ?_
      simp (maxSteps := 1000000) [go_sem, sliceV, boundV, hr2]
      have htl : (xs.take r).length = r := by rw [List.length_take]; omega
      have hinA : IntsAt H2 (.slice (some ⟨id0, 0, some 1⟩) r r) (xs.take r) := ⟨id0, 0, by rw [htl], At.take_ints hat2 hr2, by omega⟩
      have hil : id0 < H2.length := by omega
      refine andK_intro hil (andK_intro hil (vTX_two ?_ ?_))
      · simp (maxSteps := 1000000) [go_sem]
        refine l01Own_oe (xs := xs.take r) hinA (by rw [htl]; omega) _ ?_
        intro H3 w hp3 he3
        rw [htl] at he3
        obtain ⟨a3, rfl⟩ := he3.shape
        have hkA : KeepL H2.length H2 H3 := KeepL.of_prefix hp3 (Nat.le_refl _)
        have hle3 := hp3.length_le
        have hp4 : H3 <+: H3 ++ [⟨[.int .i64 k], true, true⟩] := List.prefix_append _ _
        have hkB : KeepL H2.length H3 (H3 ++ [⟨[.int .i64 k], true, true⟩]) := KeepL.of_prefix hp4 (by omega)
        have hc4 : cellsAt (H3 ++ [(⟨[.int .i64 k], true, true⟩ : Blk)]) H3.length 0 1 = some [.int .i64 k] := by rw [cellsAt_of (b := ⟨[.int .i64 k], true, true⟩) (by simp) rfl (by simp)]; rfl
        have he4 := he3.pre hp4
        simp (maxSteps := 1000000) [go_sem]
        refine andK_intro hkA ?_
        try simp (maxSteps := 1000000) [go_sem]
        generalize H3 ++ [(⟨[.int .i64 k], true, true⟩ : Blk)] = H4 at *
        refine andK_intro hkB ?_
        have hp24 : H2 <+: H4 := hp3.trans hp4
        have hle4 := hp24.length_le
        obtain ⟨v5, H5, hap5, he5, hk5, hl5⟩ := he4.append (m := 1) (news := [.int .i64 k]) (by omega) (by omega) rfl
        obtain ⟨a5, rfl⟩ := he5.shape
        have hp25 : H2 <+: H5 := KeepL.prefix hp24 (by omega) hk5 (by omega)
        have hs6 := ((At.drop_ints hat2 hr2).pre hp25).src (e := 1) (n := xs.length - r) (s := some 1) (by rw [ints_length, List.length_drop]; omega) (by omega) (xs.length - r)
        obtain ⟨v6, H6, hap6, he6, hk6, hl6⟩ := he5.append (m := xs.length - r) (news := ints (xs.drop r)) (by omega) (by have := hp25.length_le; omega) (by rw [ints_length, List.length_drop]; omega)
        obtain ⟨a6, rfl⟩ := he6.shape
        have hp26 : H2 <+: H6 := KeepL.prefix hp25 (by have := hp25.length_le; omega) hk6 (by omega)
        have hle6 := hp26.length_le
        simp only [srcCells, Nat.zero_add, Nat.mul_one] at hs6
        have hk5' : KeepL H2.length H4 H5 := fun j hj => hk5 j (by omega)
        have hk6' : KeepL H2.length H5 H6 := fun j hj => hk6 j (by omega)
        simp (maxSteps := 1000000) [go_sem, hc4, hap5]
        refine andK_intro (by omega) (andK_intro hk5' ?_)
        simp (maxSteps := 1000000) [go_sem, hs6, hap6, hw_k]
        refine andK_intro (by omega) ?_
        have et : ints (xs.take r) ++ [.int .i64 (k : Int)] ++ ints (xs.drop r) = ints (xs.take r ++ [(k : Int)] ++ xs.drop r) := by simp [ints]
        have el : r + 1 + (xs.length - r) = (xs.take r ++ [(k : Int)] ++ xs.drop r).length := by simp; omega
        have hO2 := ordL_insert hO hr
        generalize xs.take r ++ [(k : Int)] ++ xs.drop r = ys at *
        rw [et, el] at he6
        rw [el]
        obtain ⟨w6, hup6, id6, ⟨ew6, hat6, hsz6⟩, hsp6⟩ := he6.ints (by omega)
        subst ew6
        have hyl : ys.length = k + 1 := by have := hO2.1; omega
        have hsp6' := hsp6 (by intro e; rw [e] at hyl; simp at hyl)
        refine hK (k + 1, id6, ys) _ _ (by simp only; omega) (by simp [upF, Fr.get, Up.refl, hup6]) ⟨hsp6'.2, by simp only; omega, hO2, ⟨id6, ⟨rfl, hat6, hsz6⟩, fun _ => ⟨by have := hsp6'.1; have := hsm.1; omega, hsp6'.2⟩⟩, (hsm.trans hs2).trans (Same.of_prefix hp26), hS2.pre hp26⟩
      · have hp3 : H2 <+: H2 ++ [⟨[.int .i64 k], true, true⟩] := List.prefix_append _ _
        have hkA : KeepL H2.length H2 (H2 ++ [⟨[.int .i64 k], true, true⟩]) := KeepL.of_prefix hp3 (Nat.le_refl _)
        have hc3 : cellsAt (H2 ++ [(⟨[.int .i64 k], true, true⟩ : Blk)]) H2.length 0 1 = some [.int .i64 k] := by rw [cellsAt_of (b := ⟨[.int .i64 k], true, true⟩) (by simp) rfl (by simp)]; rfl
        simp (maxSteps := 1000000) [go_sem]
        generalize H2 ++ [(⟨[.int .i64 k], true, true⟩ : Blk)] = H3 at *
        refine andK_intro hkA ?_
        try simp (maxSteps := 1000000) [go_sem]
        refine l01Own_oe (xs := xs.take r) (hinA.pre hp3) (by rw [htl]; omega) _ ?_
        intro H4 w hp4 he4
        rw [htl] at he4
        obtain ⟨a3, rfl⟩ := he4.shape
        have hle3 := hp3.length_le
        have hkB : KeepL H2.length H3 H4 := KeepL.of_prefix hp4 (by omega)
        have hle34 := hp4.length_le
        have hc4 := cellsAt_pre hp4 hc3
        simp (maxSteps := 1000000) [go_sem]
        refine andK_intro hkB ?_
        have hp24 : H2 <+: H4 := hp3.trans hp4
        have hle4 := hp24.length_le
        obtain ⟨v5, H5, hap5, he5, hk5, hl5⟩ := he4.append (m := 1) (news := [.int .i64 k]) (by omega) (by omega) rfl
        obtain ⟨a5, rfl⟩ := he5.shape
        have hp25 : H2 <+: H5 := KeepL.prefix hp24 (by omega) hk5 (by omega)
        have hs6 := ((At.drop_ints hat2 hr2).pre hp25).src (e := 1) (n := xs.length - r) (s := some 1) (by rw [ints_length, List.length_drop]; omega) (by omega) (xs.length - r)
        obtain ⟨v6, H6, hap6, he6, hk6, hl6⟩ := he5.append (m := xs.length - r) (news := ints (xs.drop r)) (by omega) (by have := hp25.length_le; omega) (by rw [ints_length, List.length_drop]; omega)
        obtain ⟨a6, rfl⟩ := he6.shape
        have hp26 : H2 <+: H6 := KeepL.prefix hp25 (by have := hp25.length_le; omega) hk6 (by omega)
        have hle6 := hp26.length_le
        simp only [srcCells, Nat.zero_add, Nat.mul_one] at hs6
        have hk5' : KeepL H2.length H4 H5 := fun j hj => hk5 j (by omega)
        have hk6' : KeepL H2.length H5 H6 := fun j hj => hk6 j (by omega)
        simp (maxSteps := 1000000) [go_sem, hc4, hap5]
        refine andK_intro (by omega) (andK_intro hk5' ?_)
        simp (maxSteps := 1000000) [go_sem, hs6, hap6, hw_k]
        refine andK_intro (by omega) ?_
        have et : ints (xs.take r) ++ [.int .i64 (k : Int)] ++ ints (xs.drop r) = ints (xs.take r ++ [(k : Int)] ++ xs.drop r) := by simp [ints]
        have el : r + 1 + (xs.length - r) = (xs.take r ++ [(k : Int)] ++ xs.drop r).length := by simp; omega
        have hO2 := ordL_insert hO hr
        generalize xs.take r ++ [(k : Int)] ++ xs.drop r = ys at *
        rw [et, el] at he6
        rw [el]
        obtain ⟨w6, hup6, id6, ⟨ew6, hat6, hsz6⟩, hsp6⟩ := he6.ints (by omega)
        subst ew6
        have hyl : ys.length = k + 1 := by have := hO2.1; omega
        have hsp6' := hsp6 (by intro e; rw [e] at hyl; simp at hyl)
        refine hK (k + 1, id6, ys) _ _ (by simp only; omega) (by simp [upF, Fr.get, Up.refl, hup6]) ⟨hsp6'.2, by simp only; omega, hO2, ⟨id6, ⟨rfl, hat6, hsz6⟩, fun _ => ⟨by have := hsp6'.1; have := hsm.1; omega, hsp6'.2⟩⟩, (hsm.trans hs2).trans (Same.of_prefix hp26), hS2.pre hp26⟩
    · have : k = n := by omega
      subst this
      have hn1 : ¬ k < k := by omega
      simp (maxSteps := 1000000) [go_sem]
      exact ⟨_, Up.refl _ _, h H1 _ xs hsm hS hI hO⟩

end Go.Proofs.YtfnegaedkomcgaaGreat
end

section
namespace Go.Proofs.YtfnegaedkomcgaaGreat
open Go.RowKit Go.Shelf

attribute [local go_sem] Oper.semAt_some

def iupto {α : Type} (f : Nat -> α) (k : Nat) : List α := (List.range k).map f
theorem iupto_succ {α : Type} (f : Nat -> α) (k : Nat) : iupto f (k + 1) = iupto f k ++ [f k] := by simp [iupto, List.range_succ]
theorem iupto_length {α : Type} (f : Nat -> α) (k : Nat) : (iupto f k).length = k := by simp [iupto]
theorem iupto_all (zs : List Int) : iupto (fun j => zs[j]?.getD 0) zs.length = zs := by
  apply List.ext_getElem
  · simp [iupto]
  · intro i h1 h2
    simp [iupto, h2]
theorem iupto_take (zs : List Int) {k : Nat} (hk : k <= zs.length) : iupto (fun j => zs[j]?.getD 0) k = zs.take k := by
  apply List.ext_getElem
  · simp [iupto, hk]
  · intro i h1 h2
    have : i < zs.length := by simp [iupto] at h1; omega
    simp [iupto, this]

set_option maxRecDepth 100000 in
set_option maxHeartbeats 2000000 in
theorem values1_in (F : Fence) (n : Nat) (h7 : F.fn 138) (hro : F.round = none) (hn : 1 <= n) (l Bs bo n₀ b off len cap : Nat) (zs : List Int) (hreach : len * 8 <= 140737488351232) (hb : b < n₀) (J Jx : List Int -> World -> Prop)
    (hY : ∀ pre x W, J pre W -> pre.length < len -> YieldAt F (n - 1) Tryz.prog l #[.int .i64 x] W fun e W' =>
      (e = .returned (.bool true) /\ J (pre ++ [x]) W' /\ Below n₀ W W') \/ (e = .returned (.bool false) /\ Jx (pre ++ [x]) W'))
    (W : World) (hBs : W.cell? ⟨Bs, bo, none⟩ = some (.slice (some ⟨b, off, none⟩) len cap)) (hc : ∀ j, j < len -> W.cell? ⟨b, off + j, none⟩ = some (.int .i64 (zs[j]?.getD 0))) (h0 : J [] W) :
    CallsIn F n Tryz.prog 138 #[.func (.yield l) #[] #[], .pointer (some ⟨Bs, bo, none⟩)] W fun e W' => (∃ v, e = .returned v) /\
      ((∃ ys, ys = iupto (fun j => zs[j]?.getD 0) len /\ J ys W') \/ (∃ pre, (∃ k, k <= len /\ pre = iupto (fun j => zs[j]?.getD 0) k) /\ Jx pre W')) := by
  refine callsIn_of_wp Tryz.func138 rfl h7 ?_ hro
  simp only [Tryz.ntmps138, List.size_toArray, List.length_cons, List.length_nil, Nat.reduceAdd, Nat.reduceSub, Array.replicate_succ, Array.replicate_zero, List.push_toArray, List.append_toArray, List.nil_append, List.cons_append]
  gi_wp2
  gi_loopw [7] (fun i wr => ∃ k : Nat, k <= len /\ i = .int .i64 k /\ J (iupto (fun j => zs[j]?.getD 0) k) wr /\ Below n₀ W wr)
    (fun i _ => len - (intOf i).toNat)
  case atStart => exact ⟨0, Nat.zero_le _, rfl, h0, Below.refl _ _⟩
  case round =>
    obtain ⟨k, hk, rfl, hJs, hnx⟩ := hrel
    have hcx : k < len -> wr.cell? ⟨b, off + k, none⟩ = some (.int .i64 (zs[k]?.getD 0)) := fun h => (hnx.cell (p := ⟨b, off + k, none⟩) hb).trans (hc k h)
    by_cases hlt : k < len
    · obtain ⟨fn, tmps, assign, body, hy, hR⟩ := hY _ (zs[k]?.getD 0) wr hJs (by rw [iupto_length]; exact hlt)
      have hcx' := hcx hlt
      gi_wp2
      refine hR.mono ?_
      rintro e W3 (⟨rfl, hJ3, hk3⟩ | ⟨rfl, hJx3⟩)
      · gi_wp2
        go_roundw
        case rel => exact ⟨k + 1, by omega, by simp, by rw [iupto_succ]; exact hJ3, hnx.trans hk3⟩
        case measure => simp [intOf]; omega
      · gi_wp2
        refine bodyPost_ret (results_none rfl _ _ _) rfl ?_
        exact ⟨⟨_, rfl⟩, .inr ⟨_, ⟨k + 1, by omega, (iupto_succ _ _).symm⟩, hJx3⟩⟩
    · obtain rfl : k = len := by omega
      gi_wp2
      go_end0
      exact ⟨⟨_, rfl⟩, .inl ⟨_, rfl, hJs⟩⟩

def IIn (n₀ : Nat) (W : World) (sv : Value) (zs : List Int) : Prop :=
  (∃ a cap, sv = .slice a 0 cap /\ zs = []) \/ ∃ b off cap, sv = .slice (some ⟨b, off, none⟩) zs.length cap /\ b < n₀ /\ ∀ j, j < zs.length -> W.cell? ⟨b, off + j, none⟩ = some (.int .i64 (zs[j]?.getD 0))
theorem IIn.below {n₀ : Nat} {A B : World} (h : Below n₀ A B) {sv : Value} {zs : List Int} : IIn n₀ A sv zs -> IIn n₀ B sv zs
  | .inl e => .inl e
  | .inr ⟨b, off, cap, e, hb, hc⟩ => .inr ⟨b, off, cap, e, hb, fun j hj => (h.cell (p := ⟨b, off + j, none⟩) hb).trans (hc j hj)⟩

set_option maxRecDepth 100000 in
set_option maxHeartbeats 1000000 in
theorem values1_nil_in (F : Fence) (n : Nat) (h7 : F.fn 138) (hro : F.round = none) (l Bs bo cap : Nat) (a : Option Addr) (J : List Int -> World -> Prop) (W : World) (hBs : W.cell? ⟨Bs, bo, none⟩ = some (.slice a 0 cap)) (h0 : J [] W) :
    CallsIn F n Tryz.prog 138 #[.func (.yield l) #[] #[], .pointer (some ⟨Bs, bo, none⟩)] W fun e W' => (∃ v, e = .returned v) /\ J [] W' := by
  refine callsIn_of_wp Tryz.func138 rfl h7 ?_ hro
  simp only [Tryz.ntmps138, List.size_toArray, List.length_cons, List.length_nil, Nat.reduceAdd, Nat.reduceSub, Array.replicate_succ, Array.replicate_zero, List.push_toArray, List.append_toArray, List.nil_append, List.cons_append]
  gi_wp2
  gi_loopw [7] (fun i wr => i = .int .i64 0 /\ J [] wr) (fun _ _ => 0)
  case atStart => exact ⟨rfl, h0⟩
  case round =>
    obtain ⟨rfl, hJs⟩ := hrel
    gi_wp2
    go_end0
    exact ⟨⟨_, rfl⟩, hJs⟩

theorem values_stops (F : Fence) (n : Nat) (h7 : F.fn 138) (hro : F.round = none) (hn : 1 <= n) (Bs bo n₀ : Nat) (sv : Value) (zs : List Int) (hreach : zs.length * 8 <= 140737488351232) (w : World) (hBs : Bs < w.heap.size) (hn₀ : n₀ <= w.heap.size)
    (hc : w.cell? ⟨Bs, bo, none⟩ = some sv) (hI : IIn n₀ w sv zs) :
    SeqStopsK F n Tryz.prog 138 #[.pointer (some ⟨Bs, bo, none⟩)] (fun x : Int => #[Value.int .i64 x]) (Below n₀) (fun ys => ys = zs) (fun pre => pre <+: zs) zs.length w := fun l J Jx W hW _ _ hY h0 => by
  have hc' := (hW.cell (p := ⟨Bs, bo, none⟩) hBs).trans hc
  rcases hI.below (hW.mono hn₀) with ⟨a, cap, rfl, rfl⟩ | ⟨b, off, cap, rfl, hb, hcs⟩
  · exact (values1_nil_in F n h7 hro l Bs bo cap a J W hc' h0).mono fun e W' ⟨he, hj⟩ => ⟨he, .inl ⟨_, rfl, hj⟩⟩
  · refine (values1_in F n h7 hro hn l Bs bo n₀ b off zs.length cap zs hreach hb J Jx hY W hc' hcs h0).mono ?_
    rintro e W' ⟨he, ⟨ys, rfl, hj⟩ | ⟨pre, ⟨k, hk, rfl⟩, hj⟩⟩
    · exact ⟨he, .inl ⟨_, iupto_all zs, hj⟩⟩
    · exact ⟨he, .inr ⟨_, by rw [iupto_take zs hk]; exact List.take_prefix _ _, hj⟩⟩

theorem infoInt64 : (Tryz.prog.info? 2).map (fun i => (i.zero, i.size, i.bytes)) = some (some (.int .i64 0), 1, 8) := by kernel_rfl

set_option maxRecDepth 100000 in
set_option maxHeartbeats 2000000 in
theorem appendVals_in (F : Fence) (n : Nat) (h3 : F.fn 162) (h7 : F.fn 138) (hro : F.round = none) (hn : 3 <= n) (Bs bo : Nat) (sv : Value) (zs : List Int) (hlen : zs.length <= maxLen) (hreach : zs.length * 8 <= 140737488351232) (w : World)
    (hBs : Bs < w.heap.size) (hc0 : w.cell? ⟨Bs, bo, none⟩ = some sv) (hI : IIn w.heap.size w sv zs) :
    CallsIn F n Tryz.prog 162 #[.slice none 0 0, .func (.func 138) #[] #[.pointer (some ⟨Bs, bo, none⟩)]] w fun e W' =>
      ∃ v, e = .returned v /\ W'.ownsRow w.heap.size 2 1 v zs.length (zs.map (Value.int .i64)) /\ (v = .slice none 0 0 ↔ zs = []) /\ Below w.heap.size w W' := by
  have h1 : 1 <= n := by omega
  obtain ⟨i0, hi, hz0, hz1, hz2⟩ := info_parts infoInt64
  refine callsIn_of_wp_marks Tryz.func162 rfl h3 ?_ hro
  simp only [Tryz.ntmps162, List.size_toArray, List.length_cons, List.length_nil, Nat.reduceAdd, Nat.reduceSub, Array.replicate_succ, Array.replicate_zero, List.push_toArray, List.append_toArray, List.nil_append, List.cons_append]
  gi_wp2
  have bO := Boxed.new w 36 (.slice none 0 0)
  have hB0 : Below w.heap.size w (w.alloc (.cells #[.slice none 0 0] 36)) := (Below.refl _ w).alloc (Nat.le_refl _) _
  refine wpIn_rangeFunc_ownG hro h1 (gf := 138) (lb := #[.pointer (some ⟨Bs, bo, none⟩)]) rfl h7 (enters_of Tryz.func138 (by kernel_rfl) rfl)
    (values_stops F (n - 1) h7 hro (by omega) Bs bo w.heap.size sv zs hreach (w.alloc (.cells #[.slice none 0 0] 36)) (by simp; omega) (by simp) ((hB0.cell (p := ⟨Bs, bo, none⟩) hBs).trans hc0) (hI.below hB0)) belowK_t (belowK_b (by simp)) (Below.refl _ _) (fun _ => rfl)
    (fun pre W => (∃ v, Boxed W w.heap.size 36 v /\ W.ownsRow w.heap.size 2 1 v pre.length (pre.map (Value.int .i64)) /\ (v = .slice none 0 0 ↔ pre = [])) /\ Below w.heap.size w W)
    (fun _ _ _ => False)
    (OwnFrom.and (Own.from (holdsRow_own w.heap.size w.heap.size 36 2 1 (fun pre => pre.length) (fun pre => pre.map (Value.int .i64)) (fun pre v => v = .slice none 0 0 ↔ pre = [])) _) (ownFrom_below (Nat.le_refl _) (by simp)))
    (fun _ _ _ _ _ hs _ _ => hs)
    ⟨⟨_, bO, World.ownsRow_nil _ _ _ _, by simp⟩, hB0⟩
    (fun x => { tmps := #[.slice none 0 0, .func (.func 138) #[] #[.pointer (some ⟨Bs, bo, none⟩)], .pointer (some ⟨w.heap.size, 0, none⟩), undef, .slice none 0 0, .int .i64 x, .func (.func 138) #[] #[.pointer (some ⟨Bs, bo, none⟩)], .int .i64 x, undef, undef, undef, undef, undef], defers := [] }) ?assign ?body ?done ?stop
  case assign =>
    intro l x W K hK
    gi_wp2
    exact hK
  case body =>
    rintro l pre x W ⟨⟨v, hv, hrow, hnil⟩, hB⟩ hlt
    have hc := hv.cell
    gi_wp2_with (gi_at_builtin; refine wpListIn_append_own _ rfl _ _ 36 rfl w.heap.size 2 i0 (.int .i64 0) 1 8 Tryz.underlying36 hi hz0 hz1 hz2 rfl (by decide) _ _ _ rfl (hrow.alloc _) ⟨W.heap.size, 0, none⟩ 1 1 [.int .i64 x] rfl rfl (cell_one_new _ _ _) (by simp [Value.oneCell']) (by omega) (by omega) (by have := hB.size; simp; omega) ?_; intro v' w1 hown' hgrow _; obtain ⟨g', cap', rfl⟩ := ownsRow_succ hown'; obtain ⟨hv1, hv2, hr2, hk2, hb2⟩ := hv.appended (by decide) hrow hB.size (Nat.le_refl _) hown' hgrow; have hc1 := hv1.cell; have hf1 := hv1.frozen)
    exact ⟨hk2.from _, hb2, ⟨_, hv2, by simpa using hr2, by simp⟩, hB.trans hb2⟩
  case done =>
    rintro D ys W hD rfl ⟨⟨v, hv, hrow, hnil⟩, hB⟩ hK
    have hc := hv.cell
    gi_wp2
    refine ⟨by simp, .inl ⟨_, _, rfl, run_takeDeferred hK, ?_⟩⟩
    exact ⟨_, results_tmp rfl _ _ _, v, rfl, ownsRow_putObj hrow _ hK rfl, hnil, hB.trans (belowK_b (w := w) (Nat.le_refl _) W D _ _ (by simp at hD; omega) hK rfl rfl)⟩
  case stop =>
    rintro D c pre W _ _ h _
    exact h.elim

set_option maxHeartbeats 1000000 in
theorem collectVals_in (F : Fence) (n : Nat) (h8 : F.fn 137) (h3 : F.fn 162) (h7 : F.fn 138) (hro : F.round = none) (hn : 4 <= n) (Bs bo : Nat) (sv : Value) (zs : List Int) (hlen : zs.length <= maxLen) (hreach : zs.length * 8 <= 140737488351232) (w : World)
    (hBs : Bs < w.heap.size) (hc0 : w.cell? ⟨Bs, bo, none⟩ = some sv) (hI : IIn w.heap.size w sv zs) :
    CallsIn F n Tryz.prog 137 #[.func (.func 138) #[] #[.pointer (some ⟨Bs, bo, none⟩)]] w fun e W' =>
      ∃ v, e = .returned v /\ W'.ownsRow w.heap.size 2 1 v zs.length (zs.map (Value.int .i64)) /\ (v = .slice none 0 0 ↔ zs = []) /\ Below w.heap.size w W' := by
  have h1 : 1 <= n := by omega
  refine callsIn_of_wp Tryz.func137 rfl h8 ?_ hro
  simp only [Tryz.ntmps137, List.size_toArray, List.length_cons, List.length_nil, Nat.reduceAdd, Nat.reduceSub, Array.replicate_succ, Array.replicate_zero, List.push_toArray, List.append_toArray, List.nil_append, List.cons_append]
  gi_wp2_with (gi_at_call 162; refine (appendVals_in F (n - 1) h3 h7 hro (by omega) Bs bo sv zs hlen hreach _ hBs hc0 hI).mono ?_; rintro e w' ⟨v, rfl, hrow, hnil, hb⟩)
  go_ret
  exact ⟨v, rfl, hrow, hnil, hb⟩

theorem collectVals (Bs bo : Nat) (sv : Value) (zs : List Int) (hlen : zs.length <= maxLen) (hreach : zs.length * 8 <= 140737488351232) (w : World)
    (hBs : Bs < w.heap.size) (hc0 : w.cell? ⟨Bs, bo, none⟩ = some sv) (hI : IIn w.heap.size w sv zs) :
    Calls Tryz.prog 137 #[.func (.func 138) #[] #[.pointer (some ⟨Bs, bo, none⟩)]] w fun e W' =>
      ∃ v, e = .returned v /\ W'.ownsRow w.heap.size 2 1 v zs.length (zs.map (Value.int .i64)) /\ (v = .slice none 0 0 ↔ zs = []) /\ Below w.heap.size w W' :=
  callsIn_wide.1 (collectVals_in Fence.wide 4 trivial trivial trivial rfl (Nat.le_refl _) Bs bo sv zs hlen hreach w hBs hc0 hI)

end Go.Proofs.YtfnegaedkomcgaaGreat
end

section
namespace Go.Ab
open Go.Sort

instance : Inhabited Bk := ⟨⟨0, 0, 0⟩⟩
theorem Bk.cells_len (x : Bk) : x.cells.length = 3 := rfl
theorem Bk.cells_one (x : Bk) : x.cells.all Value.oneCell' = true := by simp [Bk.cells, Value.oneCell']

def cellsI (x : Int) : List Value := [.int .i64 x]
theorem cellsI_len (x : Int) : (cellsI x).length = 1 := rfl
theorem cellsI_one (x : Int) : (cellsI x).all Value.oneCell' = true := by simp [cellsI, Value.oneCell']

structure Row where
  id : Nat
  o : Nat
  xs : List Int
instance : Inhabited Row := ⟨⟨0, 0, []⟩⟩
def Row.val (r : Row) : Value := lv 1 r.id r.o r.xs.length
end Go.Ab
end

section
namespace Go.Proofs.YtfnegaedkomcgaaGreat
open Go.Ab Go.Sort

def CmpO (lt : Int -> Int -> Bool) (Q : Int -> Prop) (id : Nat) (H : Heap) : Prop :=
  ∀ (H' : Heap) (x y : Int) (Post : Value -> Heap -> Prop), Same (fun k => k = id) H H' -> Q x -> Q y ->
    (∀ (H'' : Heap) (c : Bool), H' <+: H'' -> c = lt x y -> Post (.bool c) H'') -> ACalls Tryz.prog 156 [.int .i64 x, .int .i64 y] H' Post
theorem CmpO.keep {lt : Int -> Int -> Bool} {Q : Int -> Prop} {id : Nat} {H H' : Heap} (h : CmpO lt Q id H) (hs : Same (fun k => k = id) H H') : CmpO lt Q id H' :=
  fun H2 x y Post h2 => h H2 x y Post (hs.trans h2)
theorem isNaNO_ok {H : Heap} {x : Int} (Post : Value -> Heap -> Prop) (h : Post (.bool false) H) : ACalls Tryz.prog 171 [.int .i64 x] H Post := by
  refine acalls_vc (rs := [.tmp 2]) Tryz.func171 rfl rfl Tryz.ntmps171 rfl rfl ?_
  simp (maxSteps := 1000000) [go_sem]
  exact h
theorem cmpLess_ok {H : Heap} {x y : Int} (Post : Value -> Heap -> Prop) (h : Post (.bool (decide (x < y))) H) : ACalls Tryz.prog 156 [.int .i64 x, .int .i64 y] H Post := by
  refine acalls_vc (rs := [.tmp 4]) Tryz.func156 rfl rfl Tryz.ntmps156 rfl rfl ?_
  simp (maxSteps := 1000000) [go_sem]
  refine isNaNO_ok _ ?_
  simp (maxSteps := 1000000) [go_sem, undef]
  exact h

end Go.Proofs.YtfnegaedkomcgaaGreat
end

section
namespace Go.Proofs.YtfnegaedkomcgaaGreat
open Go.Ab Go.Sort

theorem insO_ok {H : Heap} {id a b n : Nat} {d : Array Int} {lt : Int -> Int -> Bool} {Q : Int -> Prop} (hA : Arr cellsI H id d) (hn : d.size = n) (hl : n <= 1048576) (hab : a <= b) (hb : b <= n) (hQ : QA Q d)
    (hC : CmpO lt Q id H) (Post : Value -> Heap -> Prop) (h : ∀ H', Same (fun k => k = id) H H' -> Arr cellsI H' id (insertionSort lt d a b) -> Post (.tuple #[]) H') :
    ACalls Tryz.prog 150 [lv 1 id 0 n, .int .i64 a, .int .i64 b] H Post := by
  refine acalls_vc (rs := []) Tryz.func150 rfl rfl Tryz.ntmps150 rfl rfl ?_
  have w0 : IntKind.i64.wrap ((a : Int) + 1) = (a : Int) + 1 := i64w (by omega) (by omega)
  simp (maxSteps := 1000000) [go_sem, w0]
  refine AWp.loopVc (St := Nat × Array Int) (fun s => [(0, lv 1 id 0 n), (1, .int .i64 a), (2, .int .i64 b), (6, .int .i64 s.1)])
    (fun s H' => a + 1 <= s.1 /\ s.1 <= n + 1 /\ s.2.size = n /\ QA Q s.2 /\ Same (fun k => k = id) H H' /\ Arr cellsI H' id s.2 /\ insOuter lt a b s.1 s.2 = insertionSort lt d a b) (fun s => n + 1 - s.1) (a + 1, d) ?_ ?_ ?_
  · simp [upF, Fr.get, Up.refl]
  · exact ⟨Nat.le_refl _, by simp only; omega, hn, hQ, Same.refl _ _, hA, rfl⟩
  · rintro K ⟨i, d1⟩ H' ⟨hai, hin, hsz, hQ1, hS, hA1, hO⟩ hK
    simp only at hai hin hsz hQ1 hS hA1 hO
    rw [insOuter] at hO
    by_cases hlt : i < b
    · rw [if_pos hlt] at hO
      have hw_i : IntKind.i64.wrap ((i : Int) + 1) = (i : Int) + 1 := i64w (by omega) (by omega)
      simp (maxSteps := 1000000) [go_sem, hlt]
      refine AWp.loopVc (St := Nat × Array Int) (fun s => [(0, lv 1 id 0 n), (1, .int .i64 a), (2, .int .i64 b), (6, .int .i64 i), (7, .int .i64 s.1)])
        (fun s H2 => a <= s.1 /\ s.1 <= i /\ s.2.size = n /\ QA Q s.2 /\ Same (fun k => k = id) H H2 /\ Arr cellsI H2 id s.2 /\ insInner lt a s.1 s.2 = insInner lt a i d1) (fun s => s.1) (i, d1) ?_ ?_ ?_
      · simp [upF, Fr.get, Up.refl]
      · exact ⟨by simp only; omega, Nat.le_refl _, hsz, hQ1, hS, hA1, rfl⟩
      · rintro K2 ⟨j, d2⟩ H2 ⟨haj, hji, hsz2, hQ2, hS2, hA2, hI⟩ hK2
        simp only at haj hji hsz2 hQ2 hS2 hA2 hI
        by_cases hja : a < j
        · obtain ⟨r, rfl⟩ : ∃ r, j = r + 1 := ⟨j - 1, by omega⟩
          have hr1 : r + 1 < d2.size := by omega
          have hr0 : r < d2.size := by omega
          have c1 := hA2.load cellsI_len hr1
          have c0 := hA2.load cellsI_len hr0
          have q1 := hQ2 _ hr1
          have q0 := hQ2 _ hr0
          rw [insInner] at hI
          obtain ⟨x, hx⟩ : ∃ x, x = d2[r + 1]! := ⟨_, rfl⟩
          obtain ⟨y, hy⟩ : ∃ y, y = d2[r]! := ⟨_, rfl⟩
          rw [<- hx] at c1 q1 hI
          rw [<- hy] at c0 q0 hI
          have e1 : decide (r + 1 > a) = true := decide_eq_true hja
          rw [e1, Bool.true_and] at hI
          simp only [cellsI, Nat.mul_one, Row.val] at c1 c0
          have n1 : r + 1 < n := by omega
          have n0 : r < n := by omega
          have m1 : (r : Int) + 1 < n := by omega
          have m0 : (r : Int) < n := by omega
          have z1 : (0 : Int) <= (r : Int) + 1 := by omega
          have hwr : IntKind.i64.wrap (r : Int) = (r : Int) := i64w (by omega) (by omega)
          have ja : (a : Int) < (r : Int) + 1 := by omega
          refine AWp.draw mixed [(0, false), (1, false), (2, false), (3, false), (4, false), (5, false), (6, false), (7, false), (8, false), (9, false), (10, false), (11, false), (12, false), (13, false), (14, false)] (by kernel_rfl) ?_
          simp (maxSteps := 1000000) [go_sem, hja, ja, c1, c0, n1, n0, m1, m0, z1, hwr]
          refine hC H2 x y _ hS2 q1 q0 ?_
          intro H3 c hp3 hc
          have hS3 := hS2.via (Same.of_prefix (S := fun _ => False) hp3) (fun _ _ h => h.elim)
          have hA3 := hA2.pre hp3
          cases hxy : lt x y with
          | false =>
            rw [hxy] at hc hI
            have hc0 := hc
            simp (maxSteps := 1000000) [go_sem, hc, hc0, hw_i]
            exact hK (i + 1, d2) _ _ (by simp only; omega) (by simp [upF, Fr.get, Up.refl]) ⟨by simp only; omega, by simp only; omega, hsz2, hQ2, hS3, hA3, by simp only; rw [<- hO, <- hI]; simp⟩
          | true =>
            rw [hxy] at hc hI
            have hc0 := hc
            have c1 := hA3.load cellsI_len hr1
            have c0 := hA3.load cellsI_len hr0
            obtain ⟨H4, H5, s1, s0, hA5, hS5, hl5⟩ := hA3.swap cellsI_len cellsI_one hr1 hr0
            rw [<- hx] at c1 s0
            rw [<- hy] at c0 s1
            simp only [cellsI, Nat.mul_one, Row.val] at c1 c0 s1 s0
            simp (maxSteps := 1000000) [go_sem, hc, hc0]
            refine AWp.draw mixed [(0, false), (1, false), (2, false), (3, false), (4, false), (5, false), (6, false), (7, false), (8, false), (9, false), (10, false), (11, false), (12, false), (13, false), (14, false), (15, false), (16, false), (17, false)] (by kernel_rfl) ?_
            simp (maxSteps := 1000000) [go_sem, c1, c0, n1, n0, m1, m0, z1, hwr, s1, s0]
            exact hK2 (r, swp d2 (r + 1) r) _ _ (by simp only; omega) (by simp [upF, Fr.get, Up.refl]) ⟨by simp only; omega, by simp only; omega, by rw [size_swp]; exact hsz2, hQ2.swp hr1 hr0, hS3.trans hS5, hA5, by simp only; rw [<- hI]; simp⟩
        · have hja' : j = a := by omega
          subst hja'
          have e : insInner lt j j d2 = d2 := by
            cases j with
            | zero => rfl
            | succ r => rw [insInner]; simp
          refine AWp.draw mixed [(0, false), (1, false), (2, false), (3, false), (4, false), (5, false), (6, false), (7, false), (8, false), (9, false), (10, false), (11, false), (12, false), (13, false), (14, false)] (by kernel_rfl) ?_
          simp (maxSteps := 1000000) [go_sem, undef, hw_i]
          exact hK (i + 1, d2) _ _ (by simp only; omega) (by simp [upF, Fr.get, Up.refl]) ⟨by simp only; omega, by simp only; omega, hsz2, hQ2, hS2, hA2, by simp only; rw [<- hO, <- hI, e]⟩
    · rw [if_neg hlt] at hO
      simp (maxSteps := 1000000) [go_sem, hlt]
      exact h H' hS (hO ▸ hA1)

end Go.Proofs.YtfnegaedkomcgaaGreat
end

section
namespace Go.Proofs.YtfnegaedkomcgaaGreat
open Go.Ab Go.Sort

theorem siftO_ok {H : Heap} {id lo hi first n : Nat} {d : Array Int} {lt : Int -> Int -> Bool} {Q : Int -> Prop} (hA : Arr cellsI H id d) (hn : d.size = n) (hl : n <= 1048576) (hlo : lo <= n) (hhi : first + hi <= n) (hQ : QA Q d)
    (hC : CmpO lt Q id H) (Post : Value -> Heap -> Prop) (h : ∀ H', Same (fun k => k = id) H H' -> Arr cellsI H' id (siftDown lt hi first lo d) -> Post (.tuple #[]) H') :
    ACalls Tryz.prog 166 [lv 1 id 0 n, .int .i64 lo, .int .i64 hi, .int .i64 first] H Post := by
  refine acalls_vc (rs := []) Tryz.func166 rfl rfl Tryz.ntmps166 rfl rfl ?_
  simp (maxSteps := 1000000) [go_sem]
  refine AWp.loopVc (St := Nat × Array Int) (fun s => [(0, lv 1 id 0 n), (2, .int .i64 hi), (3, .int .i64 first), (8, .int .i64 s.1)])
    (fun s H' => s.1 <= n /\ s.2.size = n /\ QA Q s.2 /\ Same (fun k => k = id) H H' /\ Arr cellsI H' id s.2 /\ siftDown lt hi first s.1 s.2 = siftDown lt hi first lo d) (fun s => n - s.1) (lo, d) ?_ ?_ ?_
  · simp [upF, Fr.get, Up.refl]
  · exact ⟨hlo, hn, hQ, Same.refl _ _, hA, rfl⟩
  · rintro K ⟨root, d1⟩ H1 ⟨hr, hsz, hQ1, hS1, hA1, hO⟩ hK
    simp only at hr hsz hQ1 hS1 hA1 hO
    obtain ⟨ch, hch⟩ : ∃ ch, ch = 2 * root + 1 := ⟨_, rfl⟩
    obtain ⟨c2, hc2⟩ : ∃ c2, c2 = ch + 1 := ⟨_, rfl⟩
    obtain ⟨fr, hfr⟩ : ∃ fr, fr = first + root := ⟨_, rfl⟩
    obtain ⟨fc, hfc⟩ : ∃ fc, fc = first + ch := ⟨_, rfl⟩
    obtain ⟨fc2, hfc2⟩ : ∃ fc2, fc2 = first + c2 := ⟨_, rfl⟩
    have w1 : IntKind.i64.wrap (2 * (root : Int)) = 2 * (root : Int) := i64w (by omega) (by omega)
    have w2 : IntKind.i64.wrap (2 * (root : Int) + 1) = (ch : Int) := by rw [hch]; rw [i64w (by omega) (by omega)]; omega
    have w3 : IntKind.i64.wrap ((ch : Int) + 1) = (c2 : Int) := by rw [hc2]; rw [i64w (by omega) (by omega)]; omega
    by_cases hh : hi <= ch
    · rw [sift_end hch hh] at hO
      have hh' : (hi : Int) <= ch := by omega
      simp (maxSteps := 1000000) [go_sem, w1, w2, hh, hh']
      exact h H1 hS1 (hO ▸ hA1)
    · rw [sift_step hch hc2 hfr hfc hfc2 hh] at hO
      have hh' : ¬ ((hi : Int) <= ch) := by omega
      have hh2 : ch < hi := by omega
      have w4 : IntKind.i64.wrap ((first : Int) + root) = (fr : Int) := by rw [hfr]; rw [i64w (by omega) (by omega)]; omega
      have w5 : IntKind.i64.wrap ((first : Int) + ch) = (fc : Int) := by rw [hfc]; rw [i64w (by omega) (by omega)]; omega
      have w6 : IntKind.i64.wrap ((first : Int) + c2) = (fc2 : Int) := by rw [hfc2]; rw [i64w (by omega) (by omega)]; omega
      have w7 : IntKind.i64.wrap ((fc : Int) + 1) = (fc2 : Int) := by rw [hfc2, hfc, hc2]; rw [i64w (by omega) (by omega)]; omega
      have hfr1 : fr < d1.size := by omega
      have hfc1 : fc < d1.size := by omega
      have n1 : fr < n := by omega
      have n2 : fc < n := by omega
      obtain ⟨x, hx⟩ : ∃ x, x = d1[fr]! := ⟨_, rfl⟩
      obtain ⟨y, hy⟩ : ∃ y, y = d1[fc]! := ⟨_, rfl⟩
      obtain ⟨z, hz⟩ : ∃ z, z = d1[fc2]! := ⟨_, rfl⟩
      rw [<- hx, <- hy, <- hz] at hO
      have qx := hQ1 _ hfr1
      have qy := hQ1 _ hfc1
      rw [<- hx] at qx
      rw [<- hy] at qy
      have cy := hA1.load cellsI_len hfc1
      rw [<- hy] at cy
      simp only [cellsI, Nat.mul_one, Row.val] at cy
      by_cases h2 : c2 < hi
      · have h2' : (c2 : Int) < hi := by omega
        have hfc21 : fc2 < d1.size := by omega
        have n3 : fc2 < n := by omega
        have qz := hQ1 _ hfc21
        rw [<- hz] at qz
        have cz := hA1.load cellsI_len hfc21
        rw [<- hz] at cz
        simp only [cellsI, Nat.mul_one, Row.val] at cz
        have e2 : decide (c2 < hi) = true := decide_eq_true h2
        rw [e2, Bool.true_and] at hO
        simp (maxSteps := 1000000) [go_sem, w1, w2, w3, hh, hh', hh2]
        refine AWp.draw mixed [(0, false), (1, false), (2, false), (3, false), (4, false), (5, false), (6, false), (7, false), (8, false), (9, false), (10, false), (11, false), (12, false), (13, false), (14, false), (15, false), (16, false), (17, false), (18, false), (19, false)] (by kernel_rfl) ?_
        simp (maxSteps := 1000000) [go_sem, w3, w5, w7, h2, h2', cy, cz, n2, n3]
        refine hC H1 y z _ hS1 qy qz ?_
        intro H3 c hp3 hc
        have hS3 := hS1.via (Same.of_prefix (S := fun _ => False) hp3) (fun _ _ h => h.elim)
        have hA3 := hA1.pre hp3
        have cx := hA3.load cellsI_len hfr1
        rw [<- hx] at cx
        simp only [cellsI, Nat.mul_one, Row.val] at cx
        cases hyz : lt y z with
        | true =>
          rw [hyz] at hc hO
          have hc0 := hc
          have cz := hA3.load cellsI_len hfc21
          rw [<- hz] at cz
          simp only [cellsI, Nat.mul_one, Row.val] at cz
          simp (maxSteps := 1000000) [go_sem, hc, hc0, w3]
          refine AWp.draw mixed [(0, false), (1, false), (2, false), (3, false), (4, false), (5, false), (6, false), (7, false), (8, false), (9, false), (10, false), (11, false), (12, false), (13, false)] (by kernel_rfl) ?_
          simp (maxSteps := 1000000) [go_sem, w4, w6, cx, cz, n1, n3]
          refine hC H3 x z _ hS3 qx qz ?_
          intro H4 e hp4 he
          have hS4 := hS3.via (Same.of_prefix (S := fun _ => False) hp4) (fun _ _ h => h.elim)
          have hA4 := hA3.pre hp4
          cases hxz : lt x z with
          | false =>
            rw [hxz] at he hO
            have he0 := he
            simp (maxSteps := 1000000) [go_sem, he, he0]
            exact h H4 hS4 (by simpa [<- hO] using hA4)
          | true =>
            rw [hxz] at he hO
            have he0 := he
            have ca := hA4.load cellsI_len hfr1
            have cb := hA4.load cellsI_len hfc21
            obtain ⟨H5, H6, s1, s0, hA6, hS6, hl6⟩ := hA4.swap cellsI_len cellsI_one hfr1 hfc21
            rw [<- hx] at ca s0
            rw [<- hz] at cb s1
            simp only [cellsI, Nat.mul_one, Row.val] at ca cb s0 s1
            simp (maxSteps := 1000000) [go_sem, he, he0]
            refine AWp.draw mixed [(0, false), (1, false), (2, false), (3, false), (4, false), (5, false), (6, false), (7, false), (8, false), (9, false), (10, false), (11, false), (12, false), (13, false), (14, false), (15, false), (16, false), (17, false), (18, false), (19, false), (20, false), (21, false), (22, false), (23, false)] (by kernel_rfl) ?_
            simp (maxSteps := 1000000) [go_sem, w4, w6, ca, cb, n1, n3, s1, s0]
            exact hK (c2, swp d1 fr fc2) _ _ (by simp only; omega) (by simp [upF, Fr.get, Up.refl]) ⟨by simp only; omega, by rw [size_swp]; exact hsz, hQ1.swp hfr1 hfc21, hS4.trans hS6, hA6, by simp only; rw [<- hO]; simp⟩
        | false =>
          rw [hyz] at hc hO
          have hc0 := hc
          have cy := hA3.load cellsI_len hfc1
          rw [<- hy] at cy
          simp only [cellsI, Nat.mul_one, Row.val] at cy
          simp (maxSteps := 1000000) [go_sem, hc, hc0]
          refine AWp.draw mixed [(0, false), (1, false), (2, false), (3, false), (4, false), (5, false), (6, false), (7, false), (8, false), (9, false), (10, false), (11, false), (12, false), (13, false)] (by kernel_rfl) ?_
          simp (maxSteps := 1000000) [go_sem, w4, w5, cx, cy, n1, n2]
          refine hC H3 x y _ hS3 qx qy ?_
          intro H4 e hp4 he
          have hS4 := hS3.via (Same.of_prefix (S := fun _ => False) hp4) (fun _ _ h => h.elim)
          have hA4 := hA3.pre hp4
          cases hxz : lt x y with
          | false =>
            rw [hxz] at he hO
            have he0 := he
            simp (maxSteps := 1000000) [go_sem, he, he0]
            exact h H4 hS4 (by simpa [<- hO] using hA4)
          | true =>
            rw [hxz] at he hO
            have he0 := he
            have ca := hA4.load cellsI_len hfr1
            have cb := hA4.load cellsI_len hfc1
            obtain ⟨H5, H6, s1, s0, hA6, hS6, hl6⟩ := hA4.swap cellsI_len cellsI_one hfr1 hfc1
            rw [<- hx] at ca s0
            rw [<- hy] at cb s1
            simp only [cellsI, Nat.mul_one, Row.val] at ca cb s0 s1
            simp (maxSteps := 1000000) [go_sem, he, he0]
            refine AWp.draw mixed [(0, false), (1, false), (2, false), (3, false), (4, false), (5, false), (6, false), (7, false), (8, false), (9, false), (10, false), (11, false), (12, false), (13, false), (14, false), (15, false), (16, false), (17, false), (18, false), (19, false), (20, false), (21, false), (22, false), (23, false)] (by kernel_rfl) ?_
            simp (maxSteps := 1000000) [go_sem, w4, w5, ca, cb, n1, n2, s1, s0]
            exact hK (ch, swp d1 fr fc) _ _ (by simp only; omega) (by simp [upF, Fr.get, Up.refl]) ⟨by simp only; omega, by rw [size_swp]; exact hsz, hQ1.swp hfr1 hfc1, hS4.trans hS6, hA6, by simp only; rw [<- hO]; simp⟩
      · have h2' : ¬ ((c2 : Int) < hi) := by omega
        have e2 : decide (c2 < hi) = false := decide_eq_false h2
        rw [e2, Bool.false_and] at hO
        have hA3 := hA1
        have hS3 := hS1
        have cx := hA3.load cellsI_len hfr1
        rw [<- hx] at cx
        simp only [cellsI, Nat.mul_one, Row.val] at cx
        simp (maxSteps := 1000000) [go_sem, w1, w2, w3, hh, hh', hh2]
        refine AWp.draw mixed [(0, false), (1, false), (2, false), (3, false), (4, false), (5, false), (6, false), (7, false), (8, false), (9, false), (10, false), (11, false), (12, false), (13, false), (14, false), (15, false), (16, false), (17, false), (18, false), (19, false)] (by kernel_rfl) ?_
        simp (maxSteps := 1000000) [go_sem, undef, w3, h2, h2']
        obtain ⟨H3, eH3⟩ : ∃ H3, H3 = H1 := ⟨_, rfl⟩
        rw [<- eH3] at hA3 hS3 cx cy ⊢
        refine AWp.draw mixed [(0, false), (1, false), (2, false), (3, false), (4, false), (5, false), (6, false), (7, false), (8, false), (9, false), (10, false), (11, false), (12, false), (13, false)] (by kernel_rfl) ?_
        simp (maxSteps := 1000000) [go_sem, w4, w5, cx, cy, n1, n2]
        refine hC H3 x y _ hS3 qx qy ?_
        intro H4 e hp4 he
        have hS4 := hS3.via (Same.of_prefix (S := fun _ => False) hp4) (fun _ _ h => h.elim)
        have hA4 := hA3.pre hp4
        cases hxz : lt x y with
        | false =>
          rw [hxz] at he hO
          have he0 := he
          simp (maxSteps := 1000000) [go_sem, he, he0]
          exact h H4 hS4 (by simpa [<- hO] using hA4)
        | true =>
          rw [hxz] at he hO
          have he0 := he
          have ca := hA4.load cellsI_len hfr1
          have cb := hA4.load cellsI_len hfc1
          obtain ⟨H5, H6, s1, s0, hA6, hS6, hl6⟩ := hA4.swap cellsI_len cellsI_one hfr1 hfc1
          rw [<- hx] at ca s0
          rw [<- hy] at cb s1
          simp only [cellsI, Nat.mul_one, Row.val] at ca cb s0 s1
          simp (maxSteps := 1000000) [go_sem, he, he0]
          refine AWp.draw mixed [(0, false), (1, false), (2, false), (3, false), (4, false), (5, false), (6, false), (7, false), (8, false), (9, false), (10, false), (11, false), (12, false), (13, false), (14, false), (15, false), (16, false), (17, false), (18, false), (19, false), (20, false), (21, false), (22, false), (23, false)] (by kernel_rfl) ?_
          simp (maxSteps := 1000000) [go_sem, w4, w5, ca, cb, n1, n2, s1, s0]
          exact hK (ch, swp d1 fr fc) _ _ (by simp only; omega) (by simp [upF, Fr.get, Up.refl]) ⟨by simp only; omega, by rw [size_swp]; exact hsz, hQ1.swp hfr1 hfc1, hS4.trans hS6, hA6, by simp only; rw [<- hO]; simp⟩

theorem heapO_ok {H : Heap} {id a b n : Nat} {d : Array Int} {lt : Int -> Int -> Bool} {Q : Int -> Prop} (hA : Arr cellsI H id d) (hn : d.size = n) (hl : n <= 1048576) (hab : a < b) (hb : b <= n) (hQ : QA Q d)
    (hC : CmpO lt Q id H) (Post : Value -> Heap -> Prop) (h : ∀ H', Same (fun k => k = id) H H' -> Arr cellsI H' id (heapSort lt d a b) -> Post (.tuple #[]) H') :
    ACalls Tryz.prog 151 [lv 1 id 0 n, .int .i64 a, .int .i64 b] H Post := by
  refine acalls_vc (rs := []) Tryz.func151 rfl rfl Tryz.ntmps151 rfl rfl ?_
  obtain ⟨hi, hhi⟩ : ∃ hi, hi = b - a := ⟨_, rfl⟩
  obtain ⟨h1, hh1⟩ : ∃ h1, h1 = hi - 1 := ⟨_, rfl⟩
  obtain ⟨k0, hk0⟩ : ∃ k0, k0 = h1 / 2 := ⟨_, rfl⟩
  have w0 : IntKind.i64.wrap ((b : Int) - a) = (hi : Int) := by rw [hhi, i64w (by omega) (by omega)]; omega
  have w1 : IntKind.i64.wrap ((hi : Int) - 1) = (h1 : Int) := by rw [hh1, i64w (by omega) (by omega)]; omega
  have w2 : IntKind.i64.wrap ((h1 : Int) / 2) = (k0 : Int) := by rw [hk0, i64w (by omega) (by omega)]; omega
  have e0 : heapSort lt d a b = heapPop lt a hi (heapBuild lt hi a (k0 + 1) d) := by rw [hk0, hh1, hhi]; rfl
  rw [e0] at h
  simp (maxSteps := 1000000) [go_sem, w0, w1, w2]
  refine AWp.loopVc (St := Nat × Array Int) (fun s => [(0, lv 1 id 0 n), (6, .int .i64 a), (7, .int .i64 0), (8, .int .i64 hi), (9, .int .i64 ((s.1 : Int) - 1))])
    (fun s H' => s.1 <= k0 + 1 /\ s.2.size = n /\ QA Q s.2 /\ Same (fun k => k = id) H H' /\ Arr cellsI H' id s.2 /\ heapBuild lt hi a s.1 s.2 = heapBuild lt hi a (k0 + 1) d) (fun s => s.1) (k0 + 1, d) ?_ ?_ ?_
  · have e : ((k0 + 1 : Nat) : Int) - 1 = k0 := by omega
    simp [upF, Fr.get, Up.refl, e]
  · exact ⟨Nat.le_refl _, hn, hQ, Same.refl _ _, hA, rfl⟩
  · rintro K ⟨k, d1⟩ H1 ⟨hk, hsz, hQ1, hS1, hA1, hO⟩ hK
    simp only at hk hsz hQ1 hS1 hA1 hO
    cases k with
    | succ r =>
      have hwr : IntKind.i64.wrap ((r : Int) - 1) = (r : Int) - 1 := i64w (by omega) (by omega)
      simp (maxSteps := 1000000) [go_sem]
      refine siftO_ok hA1 hsz hl (by omega) (by omega) hQ1 (hC.keep hS1) _ ?_
      intro H2 hS2 hA2
      have hsz2 : (siftDown lt hi a r d1).size = n := by rw [sift_size]; exact hsz
      simp (maxSteps := 1000000) [go_sem, hwr]
      exact hK (r, siftDown lt hi a r d1) _ _ (by simp only; omega) (by simp [upF, Fr.get, Up.refl]) ⟨by simp only; omega, hsz2, sift_QA (by omega) hQ1, hS1.trans hS2, hA2, hO⟩
    | zero =>
      simp (maxSteps := 1000000) [go_sem, w1]
      have hO' : d1 = heapBuild lt hi a (k0 + 1) d := hO
      rw [<- hO'] at h
      refine AWp.loopVc (St := Nat × Array Int) (fun s => [(0, lv 1 id 0 n), (6, .int .i64 a), (7, .int .i64 0), (10, .int .i64 ((s.1 : Int) - 1))])
        (fun s H' => s.1 <= hi /\ s.2.size = n /\ QA Q s.2 /\ Same (fun k => k = id) H H' /\ Arr cellsI H' id s.2 /\ heapPop lt a s.1 s.2 = heapPop lt a hi d1) (fun s => s.1) (hi, d1) ?_ ?_ ?_
      · have e : (hi : Int) - 1 = h1 := by omega
        simp [upF, Fr.get, Up.refl, e]
      · exact ⟨Nat.le_refl _, hsz, hQ1, hS1, hA1, rfl⟩
      · rintro K2 ⟨k, d2⟩ H2 ⟨hk2, hsz2, hQ2, hS2, hA2, hP⟩ hK2
        simp only at hk2 hsz2 hQ2 hS2 hA2 hP
        cases k with
        | succ r =>
          have hwr : IntKind.i64.wrap ((r : Int) - 1) = (r : Int) - 1 := i64w (by omega) (by omega)
          obtain ⟨ar, har⟩ : ∃ ar, ar = a + r := ⟨_, rfl⟩
          have w4 : IntKind.i64.wrap ((a : Int) + r) = (ar : Int) := by rw [har]; rw [i64w (by omega) (by omega)]; omega
          have hi1 : a < d2.size := by omega
          have hi2 : ar < d2.size := by omega
          have n1 : a < n := by omega
          have n2 : ar < n := by omega
          have ca := hA2.load cellsI_len hi1
          have cb := hA2.load cellsI_len hi2
          obtain ⟨H5, H6, s1, s0, hA6, hS6, hl6⟩ := hA2.swap cellsI_len cellsI_one hi1 hi2
          obtain ⟨x, hx⟩ : ∃ x, x = d2[a]! := ⟨_, rfl⟩
          obtain ⟨y, hy⟩ : ∃ y, y = d2[ar]! := ⟨_, rfl⟩
          rw [<- hx] at ca s0
          rw [<- hy] at cb s1
          simp only [cellsI, Nat.mul_one, Row.val] at ca cb s0 s1
          rw [heapPop, <- har] at hP
          have hsz3 : (swp d2 a ar).size = n := by rw [size_swp]; exact hsz2
          have hQ3 := hQ2.swp hi1 hi2
          simp (maxSteps := 1000000) [go_sem]
          refine AWp.draw mixed [(0, false), (1, false), (2, false), (3, false), (4, false), (5, false), (6, false), (7, false), (8, false), (9, false), (10, false), (11, false), (12, false), (13, false), (14, false), (15, false), (16, false), (17, false), (18, false), (19, false)] (by kernel_rfl) ?_
          simp (maxSteps := 1000000) [go_sem, w4, ca, cb, n1, n2, s1, s0]
          refine siftO_ok (lo := 0) hA6 hsz3 hl (by omega) (by omega) hQ3 (hC.keep (hS2.trans hS6)) _ ?_
          intro H7 hS7 hA7
          have hsz4 : (siftDown lt r a 0 (swp d2 a ar)).size = n := by rw [sift_size]; exact hsz3
          simp (maxSteps := 1000000) [go_sem, hwr]
          exact hK2 (r, siftDown lt r a 0 (swp d2 a ar)) _ _ (by simp only; omega) (by simp [upF, Fr.get, Up.refl]) ⟨by simp only; omega, hsz4, sift_QA (by omega) hQ3, (hS2.trans hS6).trans hS7, hA7, hP⟩
        | zero =>
          simp (maxSteps := 1000000) [go_sem]
          refine h H2 hS2 ?_
          rw [<- hP]; exact hA2

end Go.Proofs.YtfnegaedkomcgaaGreat
end

section
namespace Go.Proofs.YtfnegaedkomcgaaGreat
open Go.Ab Go.Sort

theorem reverseO_ok {H : Heap} {id a b n : Nat} {d : Array Int} (hA : Arr cellsI H id d) (hn : d.size = n) (hl : n <= 1048576) (hab : a < b) (hb : b <= n)
    (Post : Value -> Heap -> Prop) (h : ∀ H', Same (fun k => k = id) H H' -> Arr cellsI H' id (reverseRange d a b) -> Post (.tuple #[]) H') :
    ACalls Tryz.prog 154 [lv 1 id 0 n, .int .i64 a, .int .i64 b] H Post := by
  refine acalls_vc (rs := []) Tryz.func154 rfl rfl Tryz.ntmps154 rfl rfl ?_
  obtain ⟨b1, hb1⟩ : ∃ b1, b1 = b - 1 := ⟨_, rfl⟩
  have w0 : IntKind.i64.wrap ((b : Int) - 1) = (b1 : Int) := by rw [hb1, i64w (by omega) (by omega)]; omega
  have e0 : reverseRange d a b = reverseLoop a b1 d := by rw [hb1]; rfl
  rw [e0] at h
  simp (maxSteps := 1000000) [go_sem, w0]
  refine AWp.loopVc (St := Nat × Nat × Array Int) (fun s => [(0, lv 1 id 0 n), (6, .int .i64 s.1), (7, .int .i64 s.2.1)])
    (fun s H' => s.2.1 < n /\ s.1 <= n /\ s.2.2.size = n /\ Same (fun k => k = id) H H' /\ Arr cellsI H' id s.2.2 /\ reverseLoop s.1 s.2.1 s.2.2 = reverseLoop a b1 d) (fun s => s.2.1 - s.1) (a, b1, d) ?_ ?_ ?_
  · simp [upF, Fr.get, Up.refl]
  · exact ⟨by simp only; omega, by simp only; omega, hn, Same.refl _ _, hA, rfl⟩
  · rintro K ⟨i, j, d1⟩ H1 ⟨hj, hi, hsz, hS1, hA1, hO⟩ hK
    simp only at hj hi hsz hS1 hA1 hO
    by_cases hij : i < j
    · obtain ⟨r, rfl⟩ : ∃ r, j = r + 1 := ⟨j - 1, by omega⟩
      rw [reverse_go hij] at hO
      have hi1 : i < d1.size := by omega
      have hi2 : r + 1 < d1.size := by omega
      have n1 : i < n := by omega
      have n2 : r + 1 < n := by omega
      have m2 : (r : Int) + 1 < n := by omega
      have z2 : (0 : Int) <= (r : Int) + 1 := by omega
      have hij' : (i : Int) < (r : Int) + 1 := by omega
      have hwr : IntKind.i64.wrap (r : Int) = (r : Int) := i64w (by omega) (by omega)
      have hw_i : IntKind.i64.wrap ((i : Int) + 1) = (i : Int) + 1 := i64w (by omega) (by omega)
      have ca := hA1.load cellsI_len hi1
      have cb := hA1.load cellsI_len hi2
      obtain ⟨H5, H6, s1, s0, hA6, hS6, hl6⟩ := hA1.swap cellsI_len cellsI_one hi1 hi2
      obtain ⟨x, hx⟩ : ∃ x, x = d1[i]! := ⟨_, rfl⟩
      obtain ⟨y, hy⟩ : ∃ y, y = d1[r + 1]! := ⟨_, rfl⟩
      rw [<- hx] at ca s0
      rw [<- hy] at cb s1
      simp only [cellsI, Nat.mul_one, Row.val] at ca cb s0 s1
      simp (maxSteps := 1000000) [go_sem, hij, hij']
      refine AWp.draw mixed [(0, false), (1, false), (2, false), (3, false), (4, false), (5, false), (6, false), (7, false), (8, false), (9, false), (10, false), (11, false), (12, false), (13, false), (14, false), (15, false)] (by kernel_rfl) ?_
      simp (maxSteps := 1000000) [go_sem, ca, cb, n1, n2, m2, z2, s1, s0, hw_i, hwr]
      exact hK (i + 1, r, swp d1 i (r + 1)) _ _ (by simp only; omega) (by simp [upF, Fr.get, Up.refl]) ⟨by simp only; omega, by simp only; omega, by rw [size_swp]; exact hsz, hS1.trans hS6, hA6, hO⟩
    · rw [reverse_stop hij] at hO
      have hij' : ¬ ((i : Int) < j) := by omega
      simp (maxSteps := 1000000) [go_sem, hij, hij']
      exact h H1 hS1 (hO ▸ hA1)

theorem order2O_ok {HB H : Heap} {id sw a b n : Nat} {z : Int} {d : Array Int} {lt : Int -> Int -> Bool} {Q : Int -> Prop} (hA : Arr cellsI H id d) (hn : d.size = n) (hl : n <= 1048576) (ha : a < n) (hb : b < n) (hQ : QA Q d)
    (hC : CmpO lt Q id HB) (hB : Same (fun k => k = id) HB H) (hz : H[sw]? = some ⟨[.int .i64 z], true, true⟩) (hsw : HB.length <= sw) (hid : id ≠ sw) (Post : Value -> Heap -> Prop)
    (h : ∀ H' (x y : Nat) (z' : Int), Same (fun k => k = sw) H H' -> H'[sw]? = some ⟨[.int .i64 z'], true, true⟩ -> (x = a /\ y = b \/ x = b /\ y = a) -> Post (.tuple #[.int .i64 x, .int .i64 y]) H') :
    ACalls Tryz.prog 189 [lv 1 id 0 n, .int .i64 a, .int .i64 b, .pointer (some ⟨sw, 0, none⟩)] H Post := by
  refine acalls_vc (rs := [.tmp 8, .tmp 9]) Tryz.func189 rfl rfl Tryz.ntmps189 rfl rfl ?_
  have hi1 : a < d.size := by omega
  have hi2 : b < d.size := by omega
  have ca := hA.load cellsI_len hi1
  have cb := hA.load cellsI_len hi2
  have qa := hQ _ hi1
  have qb := hQ _ hi2
  obtain ⟨x, hx⟩ : ∃ x, x = d[a]! := ⟨_, rfl⟩
  obtain ⟨y, hy⟩ : ∃ y, y = d[b]! := ⟨_, rfl⟩
  rw [<- hx] at ca qa
  rw [<- hy] at cb qb
  simp only [cellsI, Nat.mul_one, Row.val] at ca cb
  simp (maxSteps := 1000000) [go_sem]
  refine AWp.draw mixed [(0, false), (1, false), (2, false), (3, false), (4, false), (5, false), (6, false), (7, false), (8, false)] (by kernel_rfl) ?_
  simp (maxSteps := 1000000) [go_sem, ca, cb, ha, hb]
  refine hC H y x _ hB qb qa ?_
  intro H3 c hp3 hc
  have hz3 : H3[sw]? = some ⟨[.int .i64 z], true, true⟩ := pget hp3 hz
  cases hyx : lt y x with
  | true =>
    rw [hyx] at hc
    have hc0 := hc
    have lz : cellsAt H3 sw 0 1 = some [.int .i64 z] := by rw [cellsAt_of hz3 rfl (by simp)]; rfl
    obtain ⟨z1, hz1⟩ : ∃ z1, IntKind.i64.wrap (z + 1) = z1 := ⟨_, rfl⟩
    have sz : storeAt H3 sw 0 [.int .i64 z1] = some (H3.set sw ⟨[.int .i64 z1], true, true⟩) := by
      rw [storeAt_of hz3 rfl rfl (by simp) (by simp [Value.oneCell'])]; rfl
    have hlt := (List.getElem?_eq_some_iff.1 hz3).1
    have fin := h (H3.set sw ⟨[.int .i64 z1], true, true⟩) b a _ ((Same.of_prefix hp3).trans same_set) (List.getElem?_set_self hlt) (.inr ⟨rfl, rfl⟩)
    generalize H3.set sw ⟨[.int .i64 z1], true, true⟩ = H4 at sz fin
    simp (maxSteps := 1000000) [go_sem, hc, hc0, lz, hz1, sz]
    exact fin
  | false =>
    rw [hyx] at hc
    have hc0 := hc
    have fin := h H3 a b z (Same.of_prefix hp3) hz3 (.inl ⟨rfl, rfl⟩)
    simp (maxSteps := 1000000) [go_sem, hc, hc0]
    exact fin

theorem medianO_ok {HB H : Heap} {id sw a b c n : Nat} {z : Int} {d : Array Int} {lt : Int -> Int -> Bool} {Q : Int -> Prop} (hA : Arr cellsI H id d) (hn : d.size = n) (hl : n <= 1048576) (ha : a < n) (hb : b < n) (hc : c < n) (hQ : QA Q d)
    (hC : CmpO lt Q id HB) (hB : Same (fun k => k = id) HB H) (hz : H[sw]? = some ⟨[.int .i64 z], true, true⟩) (hsw : HB.length <= sw) (hid : id ≠ sw) (Post : Value -> Heap -> Prop)
    (h : ∀ H' (x : Nat) (z' : Int), Same (fun k => k = sw) H H' -> H'[sw]? = some ⟨[.int .i64 z'], true, true⟩ -> (x = a \/ x = b \/ x = c) -> Post (.int .i64 x) H') :
    ACalls Tryz.prog 170 [lv 1 id 0 n, .int .i64 a, .int .i64 b, .int .i64 c, .pointer (some ⟨sw, 0, none⟩)] H Post := by
  have stepB : ∀ {H1 : Heap}, Same (fun k => k = sw) H H1 -> Same (fun k => k = id) HB H1 := fun h1 => hB.via h1 (by intro j hj e; omega)
  have stepA : ∀ {H1 : Heap}, Same (fun k => k = sw) H H1 -> Arr cellsI H1 id d := fun h1 => h1.get hA hid
  refine acalls_vc (rs := [.tmp 10]) Tryz.func170 rfl rfl Tryz.ntmps170 rfl rfl ?_
  simp (maxSteps := 1000000) [go_sem]
  refine order2O_ok hA hn hl ha hb hQ hC hB hz hsw hid _ ?_
  intro H1 a1 b1 z1 hs1 hz1 h1
  simp (maxSteps := 1000000) [go_sem]
  refine order2O_ok (stepA hs1) hn hl (by omega) hc hQ hC (stepB hs1) hz1 hsw hid _ ?_
  intro H2 b2 c2 z2 hs2 hz2 h2
  have hs2 := hs1.trans hs2
  simp (maxSteps := 1000000) [go_sem]
  refine order2O_ok (stepA hs2) hn hl (by omega) (by omega) hQ hC (stepB hs2) hz2 hsw hid _ ?_
  intro H3 a3 b3 z3 hs3 hz3 h3
  simp (maxSteps := 1000000) [go_sem]
  exact h H3 b3 z3 (hs2.trans hs3) hz3 (by omega)

theorem medianAdjO_ok {HB H : Heap} {id sw a n : Nat} {z : Int} {d : Array Int} {lt : Int -> Int -> Bool} {Q : Int -> Prop} (hA : Arr cellsI H id d) (hn : d.size = n) (hl : n <= 1048576) (ha0 : 0 < a) (ha : a + 1 < n) (hQ : QA Q d)
    (hC : CmpO lt Q id HB) (hB : Same (fun k => k = id) HB H) (hz : H[sw]? = some ⟨[.int .i64 z], true, true⟩) (hsw : HB.length <= sw) (hid : id ≠ sw) (Post : Value -> Heap -> Prop)
    (h : ∀ H' (x : Nat) (z' : Int), Same (fun k => k = sw) H H' -> H'[sw]? = some ⟨[.int .i64 z'], true, true⟩ -> (a <= x + 1 /\ x <= a + 1) -> Post (.int .i64 x) H') :
    ACalls Tryz.prog 169 [lv 1 id 0 n, .int .i64 a, .pointer (some ⟨sw, 0, none⟩)] H Post := by
  obtain ⟨p, hp⟩ : ∃ p, p = a - 1 := ⟨_, rfl⟩
  obtain ⟨q, hq⟩ : ∃ q, q = a + 1 := ⟨_, rfl⟩
  have w0 : IntKind.i64.wrap ((a : Int) - 1) = (p : Int) := by rw [hp, i64w (by omega) (by omega)]; omega
  have w1 : IntKind.i64.wrap ((a : Int) + 1) = (q : Int) := by rw [hq, i64w (by omega) (by omega)]; omega
  refine acalls_vc (rs := [.tmp 6]) Tryz.func169 rfl rfl Tryz.ntmps169 rfl rfl ?_
  simp (maxSteps := 1000000) [go_sem, w0, w1]
  refine medianO_ok hA hn hl (by omega) (by omega) (by omega) hQ hC hB hz hsw hid _ ?_
  intro H1 x z1 hs1 hz1 h1
  simp (maxSteps := 1000000) [go_sem]
  exact h H1 x z1 hs1 hz1 (by omega)

theorem pivotO_ok {H : Heap} {id a b n : Nat} {d : Array Int} {lt : Int -> Int -> Bool} {Q : Int -> Prop} (hA : Arr cellsI H id d) (hn : d.size = n) (hl : n <= 1048576) (hab : a < b) (hb : b <= n) (hQ : QA Q d)
    (hC : CmpO lt Q id H) (Post : Value -> Heap -> Prop)
    (h : ∀ H' (x : Nat) (t : Int), H <+: H' -> (a <= x /\ x < b) -> Post (.tuple #[.int .i64 x, .int .i64 t]) H') :
    ACalls Tryz.prog 153 [lv 1 id 0 n, .int .i64 a, .int .i64 b] H Post := by
  obtain ⟨l, hll⟩ : ∃ l, l = b - a := ⟨_, rfl⟩
  obtain ⟨q, hq⟩ : ∃ q, q = l / 4 := ⟨_, rfl⟩
  obtain ⟨i, hi⟩ : ∃ i, i = a + q := ⟨_, rfl⟩
  obtain ⟨j, hj⟩ : ∃ j, j = a + q * 2 := ⟨_, rfl⟩
  obtain ⟨k, hk⟩ : ∃ k, k = a + q * 3 := ⟨_, rfl⟩
  have w0 : IntKind.i64.wrap ((b : Int) - a) = (l : Int) := by rw [hll, i64w (by omega) (by omega)]; omega
  have w1 : IntKind.i64.wrap ((l : Int) / 4) = (q : Int) := by rw [hq, i64w (by omega) (by omega)]; omega
  have w1' : IntKind.i64.wrap (q : Int) = (q : Int) := i64w (by omega) (by omega)
  have w2 : IntKind.i64.wrap ((q : Int) * 2) = (q : Int) * 2 := i64w (by omega) (by omega)
  have w3 : IntKind.i64.wrap ((q : Int) * 3) = (q : Int) * 3 := i64w (by omega) (by omega)
  have w4 : IntKind.i64.wrap ((a : Int) + q) = (i : Int) := by rw [hi, i64w (by omega) (by omega)]; omega
  have w5 : IntKind.i64.wrap ((a : Int) + (q : Int) * 2) = (j : Int) := by rw [hj, i64w (by omega) (by omega)]; omega
  have w6 : IntKind.i64.wrap ((a : Int) + (q : Int) * 3) = (k : Int) := by rw [hk, i64w (by omega) (by omega)]; omega
  have hidl := hA.lt
  have hp0 : H <+: H ++ [⟨[.int .i64 0], true, true⟩] := List.prefix_append _ _
  have hz0 : (H ++ [(⟨[.int .i64 0], true, true⟩ : Blk)])[H.length]? = some ⟨[.int .i64 0], true, true⟩ := by simp
  have fin0 : ∀ (H' : Heap) (x : Nat) (t : Int), Same (fun k => k = H.length) (H ++ [⟨[.int .i64 0], true, true⟩]) H' -> (a <= x /\ x < b) -> Post (.tuple #[.int .i64 x, .int .i64 t]) H' := by
    intro H' x t hs hx
    refine h H' x t ?_ hx
    exact ((Same.of_prefix (S := fun k => k = H.length) hp0).trans hs).prefix (by intro j hj e; omega)
  have lz : ∀ {H' : Heap} {z : Int}, H'[H.length]? = some ⟨[.int .i64 z], true, true⟩ -> cellsAt H' H.length 0 1 = some [.int .i64 z] := by
    intro H' z hz; rw [cellsAt_of hz rfl (by simp)]; rfl
  refine acalls_vc (rs := [.tmp 6, .tmp 7]) Tryz.func153 rfl rfl Tryz.ntmps153 rfl rfl ?_
  by_cases h8 : 8 <= l
  · have h8' : (8 : Int) <= l := by omega
    by_cases h50 : 50 <= l
    · have h50' : (50 : Int) <= l := by omega
      simp (maxSteps := 1000000) [go_sem, w0, w1, w1', w2, w3, w4, w5, w6, h8, h8', h50, h50']
      have hA0 := hA.pre hp0
      have hB0 : Same (fun k => k = id) H (H ++ [⟨[.int .i64 0], true, true⟩]) := Same.of_prefix hp0
      generalize H ++ [(⟨[.int .i64 0], true, true⟩ : Blk)] = H0 at hp0 hz0 fin0 hA0 hB0 ⊢
      have stepB : ∀ {H1 : Heap}, Same (fun k => k = H.length) H0 H1 -> Same (fun k => k = id) H H1 := fun h1 => hB0.via h1 (by intro j hj e; omega)
      have stepA : ∀ {H1 : Heap}, Same (fun k => k = H.length) H0 H1 -> Arr cellsI H1 id d := fun h1 => h1.get hA0 (by omega)
      refine medianAdjO_ok hA0 hn hl (by omega) (by omega) hQ hC hB0 hz0 (Nat.le_refl _) (by omega) _ ?_
      intro H1 i1 z1 hs1 hz1 h1
      simp (maxSteps := 1000000) [go_sem]
      refine medianAdjO_ok (stepA hs1) hn hl (by omega) (by omega) hQ hC (stepB hs1) hz1 (Nat.le_refl _) (by omega) _ ?_
      intro H2 j1 z2 hs2 hz2 h2
      have hs2 := hs1.trans hs2
      simp (maxSteps := 1000000) [go_sem]
      refine medianAdjO_ok (stepA hs2) hn hl (by omega) (by omega) hQ hC (stepB hs2) hz2 (Nat.le_refl _) (by omega) _ ?_
      intro H3 k1 z3 hs3 hz3 h3
      have hs3 := hs2.trans hs3
      simp (maxSteps := 1000000) [go_sem]
      refine medianO_ok (stepA hs3) hn hl (by omega) (by omega) (by omega) hQ hC (stepB hs3) hz3 (Nat.le_refl _) (by omega) _ ?_
      intro H4 x z4 hs4 hz4 h4
      have hs4 := hs3.trans hs4
      have c4 := lz hz4
      have hx : a <= x /\ x < b := by omega
      by_cases e0 : z4 = 0
      · have fin := fin0 H4 x 1 hs4 hx
        subst e0
        simp (maxSteps := 1000000) [go_sem, c4]
        exact fin
      · have e0' : (z4 == 0) = false := by simpa using e0
        by_cases e1 : z4 = 12
        · have fin := fin0 H4 x 2 hs4 hx
          subst e1
          simp (maxSteps := 1000000) [go_sem, c4]
          exact fin
        · have fin := fin0 H4 x 0 hs4 hx
          have e1' : (z4 == 12) = false := by simpa using e1
          simp (maxSteps := 1000000) [go_sem, c4, e0, e0', e1, e1']
          exact fin
    · have h50' : ¬ ((50 : Int) <= l) := by omega
      simp (maxSteps := 1000000) [go_sem, w0, w1, w1', w2, w3, w4, w5, w6, h8, h8', h50, h50']
      have hA0 := hA.pre hp0
      have hB0 : Same (fun k => k = id) H (H ++ [⟨[.int .i64 0], true, true⟩]) := Same.of_prefix hp0
      generalize H ++ [(⟨[.int .i64 0], true, true⟩ : Blk)] = H0 at hp0 hz0 fin0 hA0 hB0 ⊢
      refine medianO_ok hA0 hn hl (by omega) (by omega) (by omega) hQ hC hB0 hz0 (Nat.le_refl _) (by omega) _ ?_
      intro H4 x z4 hs4 hz4 h4
      have c4 := lz hz4
      have hx : a <= x /\ x < b := by omega
      by_cases e0 : z4 = 0
      · have fin := fin0 H4 x 1 hs4 hx
        subst e0
        simp (maxSteps := 1000000) [go_sem, c4]
        exact fin
      · have e0' : (z4 == 0) = false := by simpa using e0
        by_cases e1 : z4 = 12
        · have fin := fin0 H4 x 2 hs4 hx
          subst e1
          simp (maxSteps := 1000000) [go_sem, c4]
          exact fin
        · have fin := fin0 H4 x 0 hs4 hx
          have e1' : (z4 == 12) = false := by simpa using e1
          simp (maxSteps := 1000000) [go_sem, c4, e0, e0', e1, e1']
          exact fin
  · have h8' : ¬ ((8 : Int) <= l) := by omega
    have fin := fin0 _ j 1 (Same.refl _ _) (by omega)
    simp (maxSteps := 1000000) [go_sem, w0, w1, w1', w2, w3, w4, w5, w6, h8, h8']
    exact fin

end Go.Proofs.YtfnegaedkomcgaaGreat
end

section
namespace Go.Ab
open Go.RowKit (Below)

def exitA (id : Nat) (K : Fr -> Heap -> Prop) (Q : Exit -> Fr -> Heap -> Prop) : Exit -> Fr -> Heap -> Prop
  | .normal => Q .normal
  | .exit i => fun fr H => (i = id /\ K fr H) \/ (i ≠ id /\ Q (.exit i) fr H)
  | .goto l => Q (.goto l)
  | .ret => Q .ret
  | .panic c => Q (.panic c)
  | .outgrown => Q .outgrown
attribute [go_sem] exitA

section
variable {P : Program} {N : Nat} {H : Heap} {fr : Fr} {Q : Exit -> Fr -> Heap -> Prop}

theorem Lift.weak {B : Nat} {w0 : World} {ρ : Rho} {e : Exit} {a : Act} {w : World} {Q Q' : Exit -> Fr -> Heap -> Prop} (h : ∀ e fr H, Q e fr H -> ∃ f0, upF H f0 fr /\ Q' e f0 H) (hl : Lift B w0 N ρ Q e a w) : Lift B w0 N ρ Q' e a w := by
  obtain ⟨ρ', f, H, h1, h2, h3, h4⟩ := hl
  obtain ⟨f0, h5, h6⟩ := h e f H h4
  exact ⟨ρ', f0, H, h1, h2, FR.up h2 h5 h3, h6⟩

theorem AWp.weak {c : Code} {Q Q' : Exit -> Fr -> Heap -> Prop} (h : ∀ e fr H, Q e fr H -> ∃ f0, upF H f0 fr /\ Q' e f0 H) (hw : AWp P N c Q fr H) : AWp P N c Q' fr H :=
  fun B w0 ρ w a hR hF => wp_mono (hw B w0 ρ w a hR hF) fun _ _ _ hl => Lift.weak h hl

theorem AWp.loopCut {St St' : Type} {c : Code} (id : Nat) (L : St -> Fr) (I : St -> Heap -> Prop) (m : St -> Nat) (s0 : St) (L' : St' -> Fr) (E : St' -> Heap -> Prop) (h0 : upF H (L s0) fr) (hI : I s0 H)
    (round : ∀ (K KE : Fr -> Heap -> Prop) (s : St) (H : Heap), I s H -> (∀ (s' : St) (fr' : Fr) (H' : Heap), m s' < m s -> upF H' (L s') fr' -> I s' H' -> K fr' H') ->
      (∀ (s' : St') (fr' : Fr) (H' : Heap), upF H' (L' s') fr' -> E s' H' -> KE fr' H') -> vc P N c (thenA K (exitA id KE Q)) (L s) H)
    (after : ∀ (s' : St') (H' : Heap), E s' H' -> Q (.exit id) (L' s') H') : AWp P N (.loop c) Q fr H := by
  let KE : Fr -> Heap -> Prop := fun fr' H' => ∃ s', upF H' (L' s') fr' /\ E s' H'
  let Q1 : Exit -> Fr -> Heap -> Prop := fun e fr' H' => (∃ f0, upF H' f0 fr' /\ Q e f0 H') \/ Q e fr' H'
  have h1 : AWp P N (.loop c) (exitA id KE Q) fr H :=
    AWp.loopVc L I m s0 h0 hI fun K s H hI hK => round K KE s H hI hK fun s' _ _ h2 h3 => ⟨s', h2, h3⟩
  have h2 : ∀ e fr H, exitA id KE Q e fr H -> (∃ f0, upF H f0 fr /\ Q e f0 H) \/ Q e fr H := by
    intro e fr H h
    cases e with
    | exit i =>
      rcases h with ⟨rfl, s', h3, h4⟩ | ⟨_, h⟩
      · exact .inl ⟨_, h3, after s' H h4⟩
      · exact .inr h
    | normal => exact .inr h
    | goto l => exact .inr h
    | ret => exact .inr h
    | panic c => exact .inr h
    | outgrown => exact .inr h
  intro B w0 ρ w a hR hF
  refine wp_mono (h1 B w0 ρ w a hR hF) fun e a' w' hl => ?_
  obtain ⟨ρ', f, H2, g1, g2, g3, g4⟩ := hl
  rcases h2 e f H2 g4 with ⟨f0, h5, h6⟩ | h6
  · exact ⟨ρ', f0, H2, g1, g2, FR.up g2 h5 g3, h6⟩
  · exact ⟨ρ', f, H2, g1, g2, g3, h6⟩

theorem AWp.ofVc {x y : Code} (h : vc P N x (thenA (AWp P N y Q) Q) fr H) : AWp P N (.seq x y) Q fr H := AWp.seq (vc_sound _ _ _ _ h)
theorem AWp.seqCut {St : Type} {x y : Code} (L : St -> Fr) (E : St -> Heap -> Prop)
    (hx : ∀ KE : Fr -> Heap -> Prop, (∀ (s : St) (fr' : Fr) (H' : Heap), upF H' (L s) fr' -> E s H' -> KE fr' H') -> vc P N x (thenA KE Q) fr H)
    (hy : ∀ (s : St) (H' : Heap), E s H' -> AWp P N y Q (L s) H') : AWp P N (.seq x y) Q fr H :=
  AWp.seq (vc_sound _ _ _ _ (hx (AWp P N y Q) fun s _ _ hu he => AWp.up hu (hy s _ he)))
theorem AWp.loopA {St : Type} {c : Code} (L : St -> Fr) (I : St -> Heap -> Prop) (m : St -> Nat) (s0 : St) (h0 : upF H (L s0) fr) (hI : I s0 H)
    (round : ∀ (K : Fr -> Heap -> Prop) (s : St) (H : Heap), I s H -> (∀ (s' : St) (fr' : Fr) (H' : Heap), m s' < m s -> upF H' (L s') fr' -> I s' H' -> K fr' H') -> AWp P N c (thenA K Q) (L s) H) : AWp P N (.loop c) Q fr H :=
  AWp.loopUp L I m s0 h0 hI fun s H hI => round _ s H hI fun s' _ _ h1 h2 h3 => ⟨s', h1, h2, h3⟩

end
end Go.Ab
end

section
namespace Go.Proofs.YtfnegaedkomcgaaGreat
open Go.Ab Go.Sort

theorem partEqO_ok {H : Heap} {id a b pivot n : Nat} {d : Array Int} {lt : Int -> Int -> Bool} {Q : Int -> Prop} (hA : Arr cellsI H id d) (hn : d.size = n) (hl : n <= 1048576) (hap : a <= pivot) (hpb : pivot < b) (hb : b <= n) (hQ : QA Q d)
    (hC : CmpO lt Q id H) (Post : Value -> Heap -> Prop) (h : ∀ H', Same (fun k => k = id) H H' -> Arr cellsI H' id (partitionEqual lt d a b pivot).2 -> Post (.int .i64 ((partitionEqual lt d a b pivot).1 : Nat)) H') :
    ACalls Tryz.prog 157 [lv 1 id 0 n, .int .i64 a, .int .i64 b, .int .i64 pivot] H Post := by
  refine acalls_vc (rs := [.tmp 8]) Tryz.func157 rfl rfl Tryz.ntmps157 rfl rfl ?_
  obtain ⟨b1, hb1⟩ : ∃ b1, b1 = b - 1 := ⟨_, rfl⟩
  obtain ⟨a1, ha1⟩ : ∃ a1, a1 = a + 1 := ⟨_, rfl⟩
  have w0 : IntKind.i64.wrap ((b : Int) - 1) = (b1 : Int) := by rw [hb1, i64w (by omega) (by omega)]; omega
  have w1 : IntKind.i64.wrap ((a : Int) + 1) = (a1 : Int) := by rw [ha1, i64w (by omega) (by omega)]; omega
  have hi1 : a < d.size := by omega
  have hi2 : pivot < d.size := by omega
  have n1 : a < n := by omega
  have n2 : pivot < n := by omega
  have ca := hA.load cellsI_len hi1
  have cb := hA.load cellsI_len hi2
  obtain ⟨H5, H6, s1, s0, hA6, hS6, hl6⟩ := hA.swap cellsI_len cellsI_one hi1 hi2
  obtain ⟨x, hx⟩ : ∃ x, x = d[a]! := ⟨_, rfl⟩
  obtain ⟨y, hy⟩ : ∃ y, y = d[pivot]! := ⟨_, rfl⟩
  rw [<- hx] at ca s0
  rw [<- hy] at cb s1
  simp only [cellsI, Nat.mul_one, Row.val] at ca cb s0 s1
  have e0 : partitionEqual lt d a b pivot = partEqLoop lt a a1 b1 (swp d a pivot) := by rw [hb1, ha1]; rfl
  rw [e0] at h
  have hQ6 := hQ.swp hi1 hi2
  have hsz6 : (swp d a pivot).size = n := by rw [size_swp]; exact hn
  generalize swp d a pivot = d0 at *
  simp (maxSteps := 1000000) [go_sem]
  refine AWp.draw mixed [(0, false), (1, false), (2, false), (3, false), (4, false), (5, false), (6, false), (7, false), (8, false), (9, false), (10, false), (11, false), (12, false), (13, false), (14, false), (15, false)] (by kernel_rfl) ?_
  simp (maxSteps := 1000000) [go_sem, ca, cb, n1, n2, s1, s0, w0, w1]
  refine AWp.loopVc (St := Nat × Nat × Array Int) (fun s => [(0, lv 1 id 0 n), (1, .int .i64 a), (9, .int .i64 s.1), (10, .int .i64 s.2.1)])
    (fun s H' => a < s.1 /\ s.1 <= s.2.1 + 1 /\ s.2.1 < n /\ s.2.2.size = n /\ QA Q s.2.2 /\ Same (fun k => k = id) H H' /\ Arr cellsI H' id s.2.2 /\ partEqLoop lt a s.1 s.2.1 s.2.2 = partEqLoop lt a a1 b1 d0) (fun s => s.2.1 + 1 - s.1) (a1, b1, d0) ?_ ?_ ?_
  · simp [upF, Fr.get, Up.refl]
  · exact ⟨by simp only; omega, by simp only; omega, by simp only; omega, hsz6, hQ6, hS6, hA6, rfl⟩
  · rintro K0 ⟨i, j, d1⟩ H1 ⟨hai, hij, hjn, hsz, hQ1, hS1, hA1, hO⟩ hK0
    simp only at hai hij hjn hsz hQ1 hS1 hA1 hO
    obtain ⟨pv, hpv⟩ : ∃ pv, pv = d1[a]! := ⟨_, rfl⟩
    rw [partEqLoop_eq, <- hpv] at hO
    simp (maxSteps := 1000000) [go_sem]
    refine AWp.loopCut (St := Nat) (St' := Unit) 2 (fun s => [(0, lv 1 id 0 n), (1, .int .i64 a), (9, .int .i64 s), (10, .int .i64 j)])
      (fun s H2 => a < s /\ s <= j + 1 /\ Same (fun k => k = id) H H2 /\ Arr cellsI H2 id d1 /\ scanUp (fun x => !lt pv x) d1 j s = scanUp (fun x => !lt pv x) d1 j i) (fun s => j + 1 - s) i
      (fun _ => [(0, lv 1 id 0 n), (1, .int .i64 a), (9, .int .i64 ((scanUp (fun x => !lt pv x) d1 j i : Nat) : Int)), (10, .int .i64 j)])
      (fun _ H2 => Same (fun k => k = id) H H2 /\ Arr cellsI H2 id d1) ?_ ?_ ?_ ?_
    · simp [upF, Fr.get, Up.refl]
    · exact ⟨by omega, by omega, hS1, hA1, rfl⟩
    · rintro K KE s H2 ⟨has, hsj, hS2, hA2, hP⟩ hK hKE
      by_cases hsj2 : s <= j
      · have hi1 : s < (d1).size := by omega
        have hi0 : a < (d1).size := by omega
        have n1 : s < n := by omega
        have n0 : a < n := by omega
        have hsj3 : (s : Int) <= ((j : Nat) : Int) := by omega
        have hw_s : IntKind.i64.wrap ((s : Int) + 1) = (s : Int) + 1 := i64w (by omega) (by omega)
        have c1 := hA2.load cellsI_len hi1
        have c0 := hA2.load cellsI_len hi0
        have q1 := hQ1 _ hi1
        have q0 := hQ1 _ hi0
        obtain ⟨x, hx⟩ : ∃ x, x = (d1)[s]! := ⟨_, rfl⟩
        rw [<- hx] at c1 q1
        rw [<- hpv] at c0 q0
        simp only [cellsI, Nat.mul_one, Row.val] at c1 c0
        refine AWp.draw mixed [(0, false), (1, false), (2, false), (3, false), (4, false), (5, false), (6, false), (7, false), (8, false), (9, false), (10, false), (11, false), (12, false), (13, false), (14, false)] (by kernel_rfl) ?_
        simp (maxSteps := 1000000) [go_sem, hsj2, hsj3, c1, c0, n1, n0]
        refine hC H2 pv x _ hS2 q0 q1 ?_
        intro H3 c hp3 hc
        have hS3 := hS2.via (Same.of_prefix (S := fun _ => False) hp3) (fun _ _ h => h.elim)
        have hA3 := hA2.pre hp3
        cases hl' : lt pv x with
        | false =>
          rw [hl'] at hc
          have hc0 := hc
          simp (maxSteps := 1000000) [go_sem, hc, hc0, hw_s]
          exact hK (s + 1) _ _ (by omega) (by simp [upF, Fr.get, Up.refl]) ⟨by omega, by omega, hS3, hA3, by rw [<- hP]; exact (scanUp_go hsj2 (by show (!lt pv d1[s]!) = true; rw [<- hx]; simp [hl'])).symm⟩
        | true =>
          rw [hl'] at hc
          have hc0 := hc
          rw [scanUp_stop (.inr (by show (!lt pv d1[s]!) = false; rw [<- hx]; simp [hl']))] at hP
          simp (maxSteps := 1000000) [go_sem, hc, hc0]
          exact hKE () _ _ (by simp [upF, Fr.get, Up.refl, hP]) ⟨hS3, hA3⟩
      · rw [scanUp_stop (.inl (by omega))] at hP
        have hsj3 : ¬ ((s : Int) <= ((j : Nat) : Int)) := by omega
        refine AWp.draw mixed [(0, false), (1, false), (2, false), (3, false), (4, false), (5, false), (6, false), (7, false), (8, false), (9, false), (10, false), (11, false), (12, false), (13, false), (14, false)] (by kernel_rfl) ?_
        simp (maxSteps := 1000000) [go_sem, undef, hsj2, hsj3]
        exact hKE () _ _ (by simp [upF, Fr.get, Up.refl, hP]) ⟨hS2, hA2⟩
    rintro _ H3 ⟨hS3, hA3⟩
    have hge1 := scanUp_ge (fun x => !lt pv x) d1 j i
    have hle1 := (scanUp_spec (fun x => !lt pv x) d1 j _ i rfl).2.1 (by omega)
    have hle1s := (scanUp_spec (fun x => !lt pv x) d1 j _ i rfl).2.2.2
    obtain ⟨i2, hi2'⟩ : ∃ I, scanUp (fun x => !lt pv x) d1 j i = I := ⟨_, rfl⟩
    rw [hi2'] at hge1 hle1 hle1s ⊢
    simp (maxSteps := 1000000) [go_sem]
    refine AWp.loopCut (St := Nat) (St' := Unit) 4 (fun s => [(0, lv 1 id 0 n), (1, .int .i64 a), (9, .int .i64 i2), (10, .int .i64 s)])
      (fun s H2 => s < n /\ i2 <= s + 1 /\ Same (fun k => k = id) H H2 /\ Arr cellsI H2 id d1 /\ scanDown (fun x => lt pv x) d1 i2 s = scanDown (fun x => lt pv x) d1 i2 j) (fun s => s) j
      (fun _ => [(0, lv 1 id 0 n), (1, .int .i64 a), (9, .int .i64 i2), (10, .int .i64 ((scanDown (fun x => lt pv x) d1 i2 j : Nat) : Int))])
      (fun _ H2 => Same (fun k => k = id) H H2 /\ Arr cellsI H2 id d1) ?_ ?_ ?_ ?_
    · simp [upF, Fr.get, Up.refl]
    · exact ⟨by omega, by omega, hS3, hA3, rfl⟩
    · rintro K KE s H2 ⟨hsn, his, hS2, hA2, hP⟩ hK hKE
      by_cases his2 : i2 <= s
      · obtain ⟨r, rfl⟩ : ∃ r, s = r + 1 := ⟨s - 1, by omega⟩
        have hi1 : r + 1 < (d1).size := by omega
        have hi0 : a < (d1).size := by omega
        have n1 : r + 1 < n := by omega
        have n0 : a < n := by omega
        have m1 : (r : Int) + 1 < n := by omega
        have z1 : (0 : Int) <= (r : Int) + 1 := by omega
        have his3 : ((i2 : Nat) : Int) <= (r : Int) + 1 := by omega
        have hwr : IntKind.i64.wrap (r : Int) = (r : Int) := i64w (by omega) (by omega)
        have c1 := hA2.load cellsI_len hi1
        have c0 := hA2.load cellsI_len hi0
        have q1 := hQ1 _ hi1
        have q0 := hQ1 _ hi0
        obtain ⟨x, hx⟩ : ∃ x, x = (d1)[r + 1]! := ⟨_, rfl⟩
        rw [<- hx] at c1 q1
        rw [<- hpv] at c0 q0
        simp only [cellsI, Nat.mul_one, Row.val] at c1 c0
        refine AWp.draw mixed [(0, false), (1, false), (2, false), (3, false), (4, false), (5, false), (6, false), (7, false), (8, false), (9, false), (10, false), (11, false), (12, false), (13, false)] (by kernel_rfl) ?_
        simp (maxSteps := 1000000) [go_sem, his2, his3, c1, c0, n1, n0, m1, z1]
        refine hC H2 pv x _ hS2 q0 q1 ?_
        intro H3 c hp3 hc
        have hS3 := hS2.via (Same.of_prefix (S := fun _ => False) hp3) (fun _ _ h => h.elim)
        have hA3 := hA2.pre hp3
        cases hl' : lt pv x with
        | true =>
          rw [hl'] at hc
          have hc0 := hc
          simp (maxSteps := 1000000) [go_sem, hc, hc0, hwr]
          exact hK r _ _ (by omega) (by simp [upF, Fr.get, Up.refl]) ⟨by omega, by omega, hS3, hA3, by rw [<- hP]; exact (scanDown_go his2 (by show (lt pv d1[r + 1]!) = true; rw [<- hx]; simp [hl'])).symm⟩
        | false =>
          rw [hl'] at hc
          have hc0 := hc
          rw [scanDown_stop (.inr (by show (lt pv d1[r + 1]!) = false; rw [<- hx]; simp [hl']))] at hP
          have hP' : ((r : Nat) : Int) + 1 = ((scanDown (fun x => lt pv x) d1 i2 j : Nat) : Int) := by rw [<- hP]; simp
          simp (maxSteps := 1000000) [go_sem, hc, hc0]
          exact hKE () _ _ (by simp [upF, Fr.get, Up.refl, hP']) ⟨hS3, hA3⟩
      · rw [scanDown_stop (.inl (by omega))] at hP
        have his3 : ¬ (((i2 : Nat) : Int) <= (s : Int)) := by omega
        refine AWp.draw mixed [(0, false), (1, false), (2, false), (3, false), (4, false), (5, false), (6, false), (7, false), (8, false), (9, false), (10, false), (11, false), (12, false), (13, false)] (by kernel_rfl) ?_
        simp (maxSteps := 1000000) [go_sem, undef, his2, his3]
        exact hKE () _ _ (by simp [upF, Fr.get, Up.refl, hP]) ⟨hS2, hA2⟩
    rintro _ H4 ⟨hS4, hA4⟩
    have hge2 := scanDown_le (fun x => lt pv x) d1 i2 j
    have hle2 := (scanDown_spec (fun x => lt pv x) d1 i2 j).2.1 (by omega)
    have hle2s := (scanDown_spec (fun x => lt pv x) d1 i2 j).2.2.2
    obtain ⟨j2, hj2'⟩ : ∃ J, scanDown (fun x => lt pv x) d1 i2 j = J := ⟨_, rfl⟩
    rw [hj2'] at hge2 hle2 hle2s ⊢
    simp (maxSteps := 1000000) [go_sem]
    rw [hi2', hj2'] at hO
    by_cases hgt : j2 < i2
    · have hgt' : (j2 : Int) < i2 := by omega
      rw [if_pos hgt] at hO
      simp (maxSteps := 1000000) [go_sem, hgt, hgt']
      rw [<- hO] at h
      exact h H4 hS4 hA4
    · have hgt' : ¬ ((j2 : Int) < i2) := by omega
      rw [if_neg hgt] at hO
      have hne : i2 ≠ j2 := by
        intro e
        have f1 := hle1s (by omega)
        have f2 := hle2s (by omega) (by omega)
        rw [<- e] at f2
        simp only [Bool.not_eq_false'] at f1
        rw [f1] at f2; cases f2
      obtain ⟨r, rfl⟩ : ∃ r, j2 = r + 1 := ⟨j2 - 1, by omega⟩
      have hi1 : i2 < d1.size := by omega
      have hi2 : r + 1 < d1.size := by omega
      have n1 : i2 < n := by omega
      have n2 : r + 1 < n := by omega
      have m2 : (r : Int) + 1 < n := by omega
      have z2 : (0 : Int) <= (r : Int) + 1 := by omega
      have hgt3 : ¬ ((r : Int) + 1 < i2) := by omega
      have hwr : IntKind.i64.wrap (r : Int) = (r : Int) := i64w (by omega) (by omega)
      have hwi : IntKind.i64.wrap ((i2 : Int) + 1) = (i2 : Int) + 1 := i64w (by omega) (by omega)
      have ca := hA4.load cellsI_len hi1
      have cb := hA4.load cellsI_len hi2
      obtain ⟨H5, H6, s1, s0, hA6, hS6, hl6⟩ := hA4.swap cellsI_len cellsI_one hi1 hi2
      obtain ⟨x, hx⟩ : ∃ x, x = d1[i2]! := ⟨_, rfl⟩
      obtain ⟨y, hy⟩ : ∃ y, y = d1[r + 1]! := ⟨_, rfl⟩
      rw [<- hx] at ca s0
      rw [<- hy] at cb s1
      simp only [cellsI, Nat.mul_one, Row.val] at ca cb s0 s1
      simp (maxSteps := 1000000) [go_sem, hgt, hgt', hgt3]
      refine AWp.draw mixed [(0, false), (1, false), (2, false), (3, false), (4, false), (5, false), (6, false), (7, false), (8, false), (9, false), (10, false), (11, false), (12, false), (13, false), (14, false), (15, false)] (by kernel_rfl) ?_
      simp (maxSteps := 1000000) [go_sem, ca, cb, n1, n2, m2, z2, s1, s0, hwr, hwi]
      exact hK0 (i2 + 1, r, swp d1 i2 (r + 1)) _ _ (by simp only; omega) (by simp [upF, Fr.get, Up.refl]) ⟨by simp only; omega, by simp only; omega, by simp only; omega, by rw [size_swp]; exact hsz, hQ1.swp hi1 hi2, hS4.trans hS6, hA6, hO⟩

end Go.Proofs.YtfnegaedkomcgaaGreat
end

section
namespace Go.Proofs.YtfnegaedkomcgaaGreat
open Go.Ab Go.Sort

theorem partO_ok {H : Heap} {id a b pivot n : Nat} {d : Array Int} {lt : Int -> Int -> Bool} {Q : Int -> Prop} (hA : Arr cellsI H id d) (hn : d.size = n) (hl : n <= 1048576) (hap : a <= pivot) (hpb : pivot < b) (hb : b <= n) (hQ : QA Q d)
    (hC : CmpO lt Q id H) (Post : Value -> Heap -> Prop) (h : ∀ H', Same (fun k => k = id) H H' -> Arr cellsI H' id (partition lt d a b pivot).2.2 -> Post (.tuple #[.int .i64 ((partition lt d a b pivot).1 : Nat), .bool (partition lt d a b pivot).2.1]) H') :
    ACalls Tryz.prog 158 [lv 1 id 0 n, .int .i64 a, .int .i64 b, .int .i64 pivot] H Post := by
  refine acalls_vc (rs := [.tmp 8, .tmp 9]) Tryz.func158 rfl rfl Tryz.ntmps158 rfl rfl ?_
  obtain ⟨b1, hb1⟩ : ∃ b1, b1 = b - 1 := ⟨_, rfl⟩
  obtain ⟨a1, ha1⟩ : ∃ a1, a1 = a + 1 := ⟨_, rfl⟩
  have w0 : IntKind.i64.wrap ((b : Int) - 1) = (b1 : Int) := by rw [hb1, i64w (by omega) (by omega)]; omega
  have w1 : IntKind.i64.wrap ((a : Int) + 1) = (a1 : Int) := by rw [ha1, i64w (by omega) (by omega)]; omega
  have u1 : a < (d).size := by omega
  have u2 : pivot < (d).size := by omega
  have u3 : a < n := by omega
  have u4 : pivot < n := by omega
  have uca := (hA).load cellsI_len u1
  have ucb := (hA).load cellsI_len u2
  obtain ⟨H5, H6, us1, us0, hA6, hS6, ul⟩ := (hA).swap cellsI_len cellsI_one u1 u2
  obtain ⟨ux, uhx⟩ : ∃ x, x = (d)[a]! := ⟨_, rfl⟩
  obtain ⟨uy, uhy⟩ : ∃ y, y = (d)[pivot]! := ⟨_, rfl⟩
  rw [<- uhx] at uca us0
  rw [<- uhy] at ucb us1
  simp only [cellsI, Nat.mul_one, Row.val] at uca ucb us0 us1
  have e0 : partition lt d a b pivot = (let i := scanUp (fun x => lt x (swp d a pivot)[a]!) (swp d a pivot) b1 a1
      let j := scanDown (fun x => !lt x (swp d a pivot)[a]!) (swp d a pivot) i b1
      if i > j then (j, true, swp (swp d a pivot) j a) else
        (let r := partLoop lt a (i + 1) (j - 1) (swp (swp d a pivot) i j)
        (r.1, false, swp r.2 r.1 a))) := by rw [hb1, ha1]; rfl
  have hQ6 := hQ.swp u1 u2
  have hsz6 : (swp d a pivot).size = n := by rw [size_swp]; exact hn
  generalize swp d a pivot = d0 at *
  obtain ⟨pv, hpv⟩ : ∃ pv, pv = d0[a]! := ⟨_, rfl⟩
  simp only [<- hpv] at e0
  simp (maxSteps := 1000000) [go_sem]
  refine AWp.draw mixed [(0, false), (1, false), (2, false), (3, false), (4, false), (5, false), (6, false), (7, false), (8, false), (9, false), (10, false), (11, false), (12, false), (13, false), (14, false), (15, false)] (by kernel_rfl) ?_
  simp (maxSteps := 1000000) [go_sem, uca, ucb, u3, u4, us1, us0, w0, w1]
  refine AWp.loopCut (St := Nat) (St' := Unit) 0 (fun s => [(0, lv 1 id 0 n), (1, .int .i64 a), (10, .int .i64 s), (11, .int .i64 b1)])
    (fun s H2 => a < s /\ s <= b1 + 1 /\ Same (fun k => k = id) H H2 /\ Arr cellsI H2 id d0 /\ scanUp (fun x => lt x pv) d0 b1 s = scanUp (fun x => lt x pv) d0 b1 a1) (fun s => b1 + 1 - s) a1
    (fun _ => [(0, lv 1 id 0 n), (1, .int .i64 a), (10, .int .i64 ((scanUp (fun x => lt x pv) d0 b1 a1 : Nat) : Int)), (11, .int .i64 b1)])
    (fun _ H2 => Same (fun k => k = id) H H2 /\ Arr cellsI H2 id d0) ?_ ?_ ?_ ?_
  · simp [upF, Fr.get, Up.refl]
  · exact ⟨by omega, by omega, hS6, hA6, rfl⟩
  · rintro K KE s H2 ⟨has, hsj, hS2, hA2, hP⟩ hK hKE
    by_cases hsj2 : s <= b1
    · have hi1 : s < (d0).size := by omega
      have hi0 : a < (d0).size := by omega
      have n1 : s < n := by omega
      have n0 : a < n := by omega
      have hsj3 : (s : Int) <= ((b1 : Nat) : Int) := by omega
      have hw_s : IntKind.i64.wrap ((s : Int) + 1) = (s : Int) + 1 := i64w (by omega) (by omega)
      have c1 := hA2.load cellsI_len hi1
      have c0 := hA2.load cellsI_len hi0
      have q1 := hQ6 _ hi1
      have q0 := hQ6 _ hi0
      obtain ⟨x, hx⟩ : ∃ x, x = (d0)[s]! := ⟨_, rfl⟩
      rw [<- hx] at c1 q1
      rw [<- hpv] at c0 q0
      simp only [cellsI, Nat.mul_one, Row.val] at c1 c0
      refine AWp.draw mixed [(0, false), (1, false), (2, false), (3, false), (4, false), (5, false), (6, false), (7, false), (8, false), (9, false), (10, false), (11, false), (12, false), (13, false)] (by kernel_rfl) ?_
      simp (maxSteps := 1000000) [go_sem, hsj2, hsj3, c1, c0, n1, n0]
      refine hC H2 x pv _ hS2 q1 q0 ?_
      intro H3 c hp3 hc
      have hS3 := hS2.via (Same.of_prefix (S := fun _ => False) hp3) (fun _ _ h => h.elim)
      have hA3 := hA2.pre hp3
      cases hl' : lt x pv with
      | true =>
        rw [hl'] at hc
        have hc0 := hc
        simp (maxSteps := 1000000) [go_sem, hc, hc0, hw_s]
        exact hK (s + 1) _ _ (by omega) (by simp [upF, Fr.get, Up.refl]) ⟨by omega, by omega, hS3, hA3, by rw [<- hP]; exact (scanUp_go hsj2 (by show lt d0[s]! pv = true; rw [<- hx]; simp [hl'])).symm⟩
      | false =>
        rw [hl'] at hc
        have hc0 := hc
        rw [scanUp_stop (.inr (by show lt d0[s]! pv = false; rw [<- hx]; simp [hl']))] at hP
        simp (maxSteps := 1000000) [go_sem, hc, hc0]
        exact hKE () _ _ (by simp [upF, Fr.get, Up.refl, hP]) ⟨hS3, hA3⟩
    · rw [scanUp_stop (.inl (by omega))] at hP
      have hsj3 : ¬ ((s : Int) <= ((b1 : Nat) : Int)) := by omega
      refine AWp.draw mixed [(0, false), (1, false), (2, false), (3, false), (4, false), (5, false), (6, false), (7, false), (8, false), (9, false), (10, false), (11, false), (12, false), (13, false)] (by kernel_rfl) ?_
      simp (maxSteps := 1000000) [go_sem, undef, hsj2, hsj3]
      exact hKE () _ _ (by simp [upF, Fr.get, Up.refl, hP]) ⟨hS2, hA2⟩
  rintro _ H7 ⟨hS7, hA7⟩
  have hge1 := scanUp_ge (fun x => lt x pv) d0 b1 a1
  have hle1 := (scanUp_spec (fun x => lt x pv) d0 b1 _ a1 rfl).2.1 (by omega)
  have hle1s := (scanUp_spec (fun x => lt x pv) d0 b1 _ a1 rfl).2.2.2
  obtain ⟨i2, hi2'⟩ : ∃ I, scanUp (fun x => lt x pv) d0 b1 a1 = I := ⟨_, rfl⟩
  rw [hi2'] at hge1 hle1 hle1s ⊢
  simp (maxSteps := 1000000) [go_sem]
  refine AWp.loopCut (St := Nat) (St' := Unit) 2 (fun s => [(0, lv 1 id 0 n), (1, .int .i64 a), (10, .int .i64 i2), (11, .int .i64 s)])
    (fun s H2 => s < n /\ i2 <= s + 1 /\ Same (fun k => k = id) H H2 /\ Arr cellsI H2 id d0 /\ scanDown (fun x => !lt x pv) d0 i2 s = scanDown (fun x => !lt x pv) d0 i2 b1) (fun s => s) b1
    (fun _ => [(0, lv 1 id 0 n), (1, .int .i64 a), (10, .int .i64 i2), (11, .int .i64 ((scanDown (fun x => !lt x pv) d0 i2 b1 : Nat) : Int))])
    (fun _ H2 => Same (fun k => k = id) H H2 /\ Arr cellsI H2 id d0) ?_ ?_ ?_ ?_
  · simp [upF, Fr.get, Up.refl]
  · exact ⟨by omega, by omega, hS7, hA7, rfl⟩
  · rintro K KE s H2 ⟨hsn, his, hS2, hA2, hP⟩ hK hKE
    by_cases his2 : i2 <= s
    · obtain ⟨r, rfl⟩ : ∃ r, s = r + 1 := ⟨s - 1, by omega⟩
      have hi1 : r + 1 < (d0).size := by omega
      have hi0 : a < (d0).size := by omega
      have n1 : r + 1 < n := by omega
      have n0 : a < n := by omega
      have m1 : (r : Int) + 1 < n := by omega
      have z1 : (0 : Int) <= (r : Int) + 1 := by omega
      have his3 : ((i2 : Nat) : Int) <= (r : Int) + 1 := by omega
      have hwr : IntKind.i64.wrap (r : Int) = (r : Int) := i64w (by omega) (by omega)
      have c1 := hA2.load cellsI_len hi1
      have c0 := hA2.load cellsI_len hi0
      have q1 := hQ6 _ hi1
      have q0 := hQ6 _ hi0
      obtain ⟨x, hx⟩ : ∃ x, x = (d0)[r + 1]! := ⟨_, rfl⟩
      rw [<- hx] at c1 q1
      rw [<- hpv] at c0 q0
      simp only [cellsI, Nat.mul_one, Row.val] at c1 c0
      refine AWp.draw mixed [(0, false), (1, false), (2, false), (3, false), (4, false), (5, false), (6, false), (7, false), (8, false), (9, false), (10, false), (11, false), (12, false), (13, false), (14, false)] (by kernel_rfl) ?_
      simp (maxSteps := 1000000) [go_sem, his2, his3, c1, c0, n1, n0, m1, z1]
      refine hC H2 x pv _ hS2 q1 q0 ?_
      intro H3 c hp3 hc
      have hS3 := hS2.via (Same.of_prefix (S := fun _ => False) hp3) (fun _ _ h => h.elim)
      have hA3 := hA2.pre hp3
      cases hl' : lt x pv with
      | false =>
        rw [hl'] at hc
        have hc0 := hc
        simp (maxSteps := 1000000) [go_sem, hc, hc0, hwr]
        exact hK r _ _ (by omega) (by simp [upF, Fr.get, Up.refl]) ⟨by omega, by omega, hS3, hA3, by rw [<- hP]; exact (scanDown_go his2 (by show (!lt d0[r + 1]! pv) = true; rw [<- hx]; simp [hl'])).symm⟩
      | true =>
        rw [hl'] at hc
        have hc0 := hc
        rw [scanDown_stop (.inr (by show (!lt d0[r + 1]! pv) = false; rw [<- hx]; simp [hl']))] at hP
        have hP' : ((r : Nat) : Int) + 1 = ((scanDown (fun x => !lt x pv) d0 i2 b1 : Nat) : Int) := by rw [<- hP]; simp
        simp (maxSteps := 1000000) [go_sem, hc, hc0]
        exact hKE () _ _ (by simp [upF, Fr.get, Up.refl, hP']) ⟨hS3, hA3⟩
    · rw [scanDown_stop (.inl (by omega))] at hP
      have his3 : ¬ (((i2 : Nat) : Int) <= (s : Int)) := by omega
      refine AWp.draw mixed [(0, false), (1, false), (2, false), (3, false), (4, false), (5, false), (6, false), (7, false), (8, false), (9, false), (10, false), (11, false), (12, false), (13, false), (14, false)] (by kernel_rfl) ?_
      simp (maxSteps := 1000000) [go_sem, undef, his2, his3]
      exact hKE () _ _ (by simp [upF, Fr.get, Up.refl, hP]) ⟨hS2, hA2⟩
  rintro _ H8 ⟨hS8, hA8⟩
  have hge2 := scanDown_le (fun x => !lt x pv) d0 i2 b1
  have hle2 := (scanDown_spec (fun x => !lt x pv) d0 i2 b1).2.1 (by omega)
  have hle2s := (scanDown_spec (fun x => !lt x pv) d0 i2 b1).2.2.2
  obtain ⟨j2, hj2'⟩ : ∃ J, scanDown (fun x => !lt x pv) d0 i2 b1 = J := ⟨_, rfl⟩
  rw [hj2'] at hge2 hle2 hle2s ⊢
  simp (maxSteps := 1000000) [go_sem]
  simp only [hi2', hj2'] at e0
  by_cases hgt : j2 < i2
  · have hgt' : (j2 : Int) < i2 := by omega
    rw [if_pos hgt] at e0
    rw [e0] at h
    have v1 : j2 < (d0).size := by omega
    have v2 : a < (d0).size := by omega
    have v3 : j2 < n := by omega
    have v4 : a < n := by omega
    have vca := (hA8).load cellsI_len v1
    have vcb := (hA8).load cellsI_len v2
    obtain ⟨H9, HA, vs1, vs0, hAA, hSA, vl⟩ := (hA8).swap cellsI_len cellsI_one v1 v2
    obtain ⟨vx, vhx⟩ : ∃ x, x = (d0)[j2]! := ⟨_, rfl⟩
    obtain ⟨vy, vhy⟩ : ∃ y, y = (d0)[a]! := ⟨_, rfl⟩
    rw [<- vhx] at vca vs0
    rw [<- vhy] at vcb vs1
    simp only [cellsI, Nat.mul_one, Row.val] at vca vcb vs0 vs1
    simp (maxSteps := 1000000) [go_sem, hgt, hgt']
    refine AWp.draw mixed [(0, false), (1, false), (2, false), (3, false), (4, false), (5, false), (6, false), (7, false), (8, false), (9, false), (10, false), (11, false), (12, false), (13, false), (14, false), (15, false)] (by kernel_rfl) ?_
    simp (maxSteps := 1000000) [go_sem, vca, vcb, v3, v4, vs1, vs0]
    exact h HA (hS8.trans hSA) hAA
  · have hgt' : ¬ ((j2 : Int) < i2) := by omega
    rw [if_neg hgt] at e0
    have hne : i2 ≠ j2 := by
      intro e
      have f1 := hle1s (by omega)
      have f2 := hle2s (by omega) (by omega)
      rw [<- e] at f2
      rw [f1] at f2; cases f2
    have v1 : i2 < (d0).size := by omega
    have v2 : j2 < (d0).size := by omega
    have v3 : i2 < n := by omega
    have v4 : j2 < n := by omega
    have vca := (hA8).load cellsI_len v1
    have vcb := (hA8).load cellsI_len v2
    obtain ⟨H9, HA, vs1, vs0, hAA, hSA, vl⟩ := (hA8).swap cellsI_len cellsI_one v1 v2
    obtain ⟨vx, vhx⟩ : ∃ x, x = (d0)[i2]! := ⟨_, rfl⟩
    obtain ⟨vy, vhy⟩ : ∃ y, y = (d0)[j2]! := ⟨_, rfl⟩
    rw [<- vhx] at vca vs0
    rw [<- vhy] at vcb vs1
    simp only [cellsI, Nat.mul_one, Row.val] at vca vcb vs0 vs1
    have hQA := hQ6.swp v1 v2
    have hszA : (swp d0 i2 j2).size = n := by rw [size_swp]; exact hsz6
    have hSA := hS8.trans hSA
    obtain ⟨i3, hi3⟩ : ∃ i3, i3 = i2 + 1 := ⟨_, rfl⟩
    obtain ⟨j3, hj3⟩ : ∃ j3, j3 = j2 - 1 := ⟨_, rfl⟩
    have w4 : IntKind.i64.wrap ((j2 : Int) - 1) = (j3 : Int) := by rw [hj3, i64w (by omega) (by omega)]; omega
    have w5 : IntKind.i64.wrap ((i2 : Int) + 1) = (i3 : Int) := by rw [hi3, i64w (by omega) (by omega)]; omega
    rw [<- hi3, <- hj3] at e0
    have hj3n : j3 < n := by omega
    have hi3j : i3 <= j3 + 1 := by omega
    have hai3 : a < i3 := by omega
    generalize swp d0 i2 j2 = dA at *
    simp (maxSteps := 1000000) [go_sem, hgt, hgt']
    refine AWp.draw mixed [(0, false), (1, false), (2, false), (3, false), (4, false), (5, false), (6, false), (7, false), (8, false), (9, false), (10, false), (11, false), (12, false), (13, false), (14, false), (15, false)] (by kernel_rfl) ?_
    simp (maxSteps := 1000000) [go_sem, vca, vcb, v3, v4, vs1, vs0, w4, w5]
    clear hle1s hle2s hi2' hj2' vs1 vs0 vca vcb us1 us0 uca ucb
    refine AWp.loopVc (St := Nat × Nat × Array Int) (fun s => [(0, lv 1 id 0 n), (1, .int .i64 a), (10, .int .i64 s.1), (11, .int .i64 s.2.1)])
      (fun s H' => a < s.1 /\ s.1 <= s.2.1 + 1 /\ s.2.1 < n /\ s.2.2.size = n /\ QA Q s.2.2 /\ Same (fun k => k = id) H H' /\ Arr cellsI H' id s.2.2 /\ partLoop lt a s.1 s.2.1 s.2.2 = partLoop lt a i3 j3 dA) (fun s => s.2.1 + 1 - s.1) (i3, j3, dA) ?_ ?_ ?_
    · simp [upF, Fr.get, Up.refl]
    · exact ⟨hai3, hi3j, hj3n, hszA, hQA, hSA, hAA, rfl⟩
    · rintro K0 ⟨i, j, d1⟩ H1 ⟨hai, hij, hjn, hsz, hQ1, hS1, hA1, hO⟩ hK0
      simp only at hai hij hjn hsz hQ1 hS1 hA1 hO
      obtain ⟨pw, hpw⟩ : ∃ pw, pw = d1[a]! := ⟨_, rfl⟩
      rw [partLoop_eq, <- hpw] at hO
      simp (maxSteps := 1000000) [go_sem]
      refine AWp.loopCut (St := Nat) (St' := Unit) 6 (fun s => [(0, lv 1 id 0 n), (1, .int .i64 a), (10, .int .i64 s), (11, .int .i64 j)])
        (fun s H2 => a < s /\ s <= j + 1 /\ Same (fun k => k = id) H H2 /\ Arr cellsI H2 id d1 /\ scanUp (fun x => lt x pw) d1 j s = scanUp (fun x => lt x pw) d1 j i) (fun s => j + 1 - s) i
        (fun _ => [(0, lv 1 id 0 n), (1, .int .i64 a), (10, .int .i64 ((scanUp (fun x => lt x pw) d1 j i : Nat) : Int)), (11, .int .i64 j)])
        (fun _ H2 => Same (fun k => k = id) H H2 /\ Arr cellsI H2 id d1) ?_ ?_ ?_ ?_
      · simp [upF, Fr.get, Up.refl]
      · exact ⟨by omega, by omega, hS1, hA1, rfl⟩
      · rintro K KE s H2 ⟨has, hsj, hS2, hA2, hP⟩ hK hKE
        by_cases hsj2 : s <= j
        · have hi1 : s < (d1).size := by omega
          have hi0 : a < (d1).size := by omega
          have n1 : s < n := by omega
          have n0 : a < n := by omega
          have hsj3 : (s : Int) <= ((j : Nat) : Int) := by omega
          have hw_s : IntKind.i64.wrap ((s : Int) + 1) = (s : Int) + 1 := i64w (by omega) (by omega)
          have c1 := hA2.load cellsI_len hi1
          have c0 := hA2.load cellsI_len hi0
          have q1 := hQ1 _ hi1
          have q0 := hQ1 _ hi0
          obtain ⟨x, hx⟩ : ∃ x, x = (d1)[s]! := ⟨_, rfl⟩
          rw [<- hx] at c1 q1
          rw [<- hpw] at c0 q0
          simp only [cellsI, Nat.mul_one, Row.val] at c1 c0
          refine AWp.draw mixed [(0, false), (1, false), (2, false), (3, false), (4, false), (5, false), (6, false), (7, false), (8, false), (9, false), (10, false), (11, false), (12, false), (13, false)] (by kernel_rfl) ?_
          simp (maxSteps := 1000000) [go_sem, hsj2, hsj3, c1, c0, n1, n0]
          refine hC H2 x pw _ hS2 q1 q0 ?_
          intro H3 c hp3 hc
          have hS3 := hS2.via (Same.of_prefix (S := fun _ => False) hp3) (fun _ _ h => h.elim)
          have hA3 := hA2.pre hp3
          cases hl' : lt x pw with
          | true =>
            rw [hl'] at hc
            have hc0 := hc
            simp (maxSteps := 1000000) [go_sem, hc, hc0, hw_s]
            exact hK (s + 1) _ _ (by omega) (by simp [upF, Fr.get, Up.refl]) ⟨by omega, by omega, hS3, hA3, by rw [<- hP]; exact (scanUp_go hsj2 (by show lt d1[s]! pw = true; rw [<- hx]; simp [hl'])).symm⟩
          | false =>
            rw [hl'] at hc
            have hc0 := hc
            rw [scanUp_stop (.inr (by show lt d1[s]! pw = false; rw [<- hx]; simp [hl']))] at hP
            simp (maxSteps := 1000000) [go_sem, hc, hc0]
            exact hKE () _ _ (by simp [upF, Fr.get, Up.refl, hP]) ⟨hS3, hA3⟩
        · rw [scanUp_stop (.inl (by omega))] at hP
          have hsj3 : ¬ ((s : Int) <= ((j : Nat) : Int)) := by omega
          refine AWp.draw mixed [(0, false), (1, false), (2, false), (3, false), (4, false), (5, false), (6, false), (7, false), (8, false), (9, false), (10, false), (11, false), (12, false), (13, false)] (by kernel_rfl) ?_
          simp (maxSteps := 1000000) [go_sem, undef, hsj2, hsj3]
          exact hKE () _ _ (by simp [upF, Fr.get, Up.refl, hP]) ⟨hS2, hA2⟩
      rintro _ H3 ⟨hS3, hA3⟩
      have hge3 := scanUp_ge (fun x => lt x pw) d1 j i
      have hle3 := (scanUp_spec (fun x => lt x pw) d1 j _ i rfl).2.1 (by omega)
      have hle3s := (scanUp_spec (fun x => lt x pw) d1 j _ i rfl).2.2.2
      obtain ⟨i4, hi4'⟩ : ∃ I, scanUp (fun x => lt x pw) d1 j i = I := ⟨_, rfl⟩
      rw [hi4'] at hge3 hle3 hle3s ⊢
      simp (maxSteps := 1000000) [go_sem]
      refine AWp.loopCut (St := Nat) (St' := Unit) 8 (fun s => [(0, lv 1 id 0 n), (1, .int .i64 a), (10, .int .i64 i4), (11, .int .i64 s)])
        (fun s H2 => s < n /\ i4 <= s + 1 /\ Same (fun k => k = id) H H2 /\ Arr cellsI H2 id d1 /\ scanDown (fun x => !lt x pw) d1 i4 s = scanDown (fun x => !lt x pw) d1 i4 j) (fun s => s) j
        (fun _ => [(0, lv 1 id 0 n), (1, .int .i64 a), (10, .int .i64 i4), (11, .int .i64 ((scanDown (fun x => !lt x pw) d1 i4 j : Nat) : Int))])
        (fun _ H2 => Same (fun k => k = id) H H2 /\ Arr cellsI H2 id d1) ?_ ?_ ?_ ?_
      · simp [upF, Fr.get, Up.refl]
      · exact ⟨by omega, by omega, hS3, hA3, rfl⟩
      · rintro K KE s H2 ⟨hsn, his, hS2, hA2, hP⟩ hK hKE
        by_cases his2 : i4 <= s
        · obtain ⟨r, rfl⟩ : ∃ r, s = r + 1 := ⟨s - 1, by omega⟩
          have hi1 : r + 1 < (d1).size := by omega
          have hi0 : a < (d1).size := by omega
          have n1 : r + 1 < n := by omega
          have n0 : a < n := by omega
          have m1 : (r : Int) + 1 < n := by omega
          have z1 : (0 : Int) <= (r : Int) + 1 := by omega
          have his3 : ((i4 : Nat) : Int) <= (r : Int) + 1 := by omega
          have hwr : IntKind.i64.wrap (r : Int) = (r : Int) := i64w (by omega) (by omega)
          have c1 := hA2.load cellsI_len hi1
          have c0 := hA2.load cellsI_len hi0
          have q1 := hQ1 _ hi1
          have q0 := hQ1 _ hi0
          obtain ⟨x, hx⟩ : ∃ x, x = (d1)[r + 1]! := ⟨_, rfl⟩
          rw [<- hx] at c1 q1
          rw [<- hpw] at c0 q0
          simp only [cellsI, Nat.mul_one, Row.val] at c1 c0
          refine AWp.draw mixed [(0, false), (1, false), (2, false), (3, false), (4, false), (5, false), (6, false), (7, false), (8, false), (9, false), (10, false), (11, false), (12, false), (13, false), (14, false)] (by kernel_rfl) ?_
          simp (maxSteps := 1000000) [go_sem, his2, his3, c1, c0, n1, n0, m1, z1]
          refine hC H2 x pw _ hS2 q1 q0 ?_
          intro H3 c hp3 hc
          have hS3 := hS2.via (Same.of_prefix (S := fun _ => False) hp3) (fun _ _ h => h.elim)
          have hA3 := hA2.pre hp3
          cases hl' : lt x pw with
          | false =>
            rw [hl'] at hc
            have hc0 := hc
            simp (maxSteps := 1000000) [go_sem, hc, hc0, hwr]
            exact hK r _ _ (by omega) (by simp [upF, Fr.get, Up.refl]) ⟨by omega, by omega, hS3, hA3, by rw [<- hP]; exact (scanDown_go his2 (by show (!lt d1[r + 1]! pw) = true; rw [<- hx]; simp [hl'])).symm⟩
          | true =>
            rw [hl'] at hc
            have hc0 := hc
            rw [scanDown_stop (.inr (by show (!lt d1[r + 1]! pw) = false; rw [<- hx]; simp [hl']))] at hP
            have hP' : ((r : Nat) : Int) + 1 = ((scanDown (fun x => !lt x pw) d1 i4 j : Nat) : Int) := by rw [<- hP]; simp
            simp (maxSteps := 1000000) [go_sem, hc, hc0]
            exact hKE () _ _ (by simp [upF, Fr.get, Up.refl, hP']) ⟨hS3, hA3⟩
        · rw [scanDown_stop (.inl (by omega))] at hP
          have his3 : ¬ (((i4 : Nat) : Int) <= (s : Int)) := by omega
          refine AWp.draw mixed [(0, false), (1, false), (2, false), (3, false), (4, false), (5, false), (6, false), (7, false), (8, false), (9, false), (10, false), (11, false), (12, false), (13, false), (14, false)] (by kernel_rfl) ?_
          simp (maxSteps := 1000000) [go_sem, undef, his2, his3]
          exact hKE () _ _ (by simp [upF, Fr.get, Up.refl, hP]) ⟨hS2, hA2⟩
      rintro _ H4 ⟨hS4, hA4⟩
      have hge4 := scanDown_le (fun x => !lt x pw) d1 i4 j
      have hle4 := (scanDown_spec (fun x => !lt x pw) d1 i4 j).2.1 (by omega)
      have hle4s := (scanDown_spec (fun x => !lt x pw) d1 i4 j).2.2.2
      obtain ⟨j4, hj4'⟩ : ∃ J, scanDown (fun x => !lt x pw) d1 i4 j = J := ⟨_, rfl⟩
      rw [hj4'] at hge4 hle4 hle4s ⊢
      simp (maxSteps := 1000000) [go_sem]
      rw [hi4', hj4'] at hO
      by_cases hgt : j4 < i4
      · have hgt' : (j4 : Int) < i4 := by omega
        rw [if_pos hgt] at hO
        rw [<- hO] at e0
        rw [e0] at h
        have z1 : j4 < (d1).size := by omega
        have z2 : a < (d1).size := by omega
        have z3 : j4 < n := by omega
        have z4 : a < n := by omega
        have zca := (hA4).load cellsI_len z1
        have zcb := (hA4).load cellsI_len z2
        obtain ⟨HC, HD, zs1, zs0, hAD, hSD, zl⟩ := (hA4).swap cellsI_len cellsI_one z1 z2
        obtain ⟨zx, zhx⟩ : ∃ x, x = (d1)[j4]! := ⟨_, rfl⟩
        obtain ⟨zy, zhy⟩ : ∃ y, y = (d1)[a]! := ⟨_, rfl⟩
        rw [<- zhx] at zca zs0
        rw [<- zhy] at zcb zs1
        simp only [cellsI, Nat.mul_one, Row.val] at zca zcb zs0 zs1
        simp (maxSteps := 1000000) [go_sem, hgt, hgt']
        refine AWp.draw mixed [(0, false), (1, false), (2, false), (3, false), (4, false), (5, false), (6, false), (7, false), (8, false), (9, false), (10, false), (11, false), (12, false), (13, false), (14, false), (15, false)] (by kernel_rfl) ?_
        simp (maxSteps := 1000000) [go_sem, zca, zcb, z3, z4, zs1, zs0]
        exact h HD (hS4.trans hSD) hAD
      · have hgt' : ¬ ((j4 : Int) < i4) := by omega
        rw [if_neg hgt] at hO
        have hne : i4 ≠ j4 := by
          intro e
          have f1 := hle3s (by omega)
          have f2 := hle4s (by omega) (by omega)
          rw [<- e] at f2
          rw [f1] at f2; cases f2
        have z1 : i4 < (d1).size := by omega
        have z2 : j4 < (d1).size := by omega
        have z3 : i4 < n := by omega
        have z4 : j4 < n := by omega
        have zca := (hA4).load cellsI_len z1
        have zcb := (hA4).load cellsI_len z2
        obtain ⟨HC, HD, zs1, zs0, hAD, hSD, zl⟩ := (hA4).swap cellsI_len cellsI_one z1 z2
        obtain ⟨zx, zhx⟩ : ∃ x, x = (d1)[i4]! := ⟨_, rfl⟩
        obtain ⟨zy, zhy⟩ : ∃ y, y = (d1)[j4]! := ⟨_, rfl⟩
        rw [<- zhx] at zca zs0
        rw [<- zhy] at zcb zs1
        simp only [cellsI, Nat.mul_one, Row.val] at zca zcb zs0 zs1
        obtain ⟨i5, hi5⟩ : ∃ i5, i5 = i4 + 1 := ⟨_, rfl⟩
        obtain ⟨j5, hj5⟩ : ∃ j5, j5 = j4 - 1 := ⟨_, rfl⟩
        have w6 : IntKind.i64.wrap ((j4 : Int) - 1) = (j5 : Int) := by rw [hj5, i64w (by omega) (by omega)]; omega
        have w7 : IntKind.i64.wrap ((i4 : Int) + 1) = (i5 : Int) := by rw [hi5, i64w (by omega) (by omega)]; omega
        rw [<- hi5, <- hj5] at hO
        simp (maxSteps := 1000000) [go_sem, hgt, hgt']
        refine AWp.draw mixed [(0, false), (1, false), (2, false), (3, false), (4, false), (5, false), (6, false), (7, false), (8, false), (9, false), (10, false), (11, false), (12, false), (13, false), (14, false), (15, false)] (by kernel_rfl) ?_
        simp (maxSteps := 1000000) [go_sem, zca, zcb, z3, z4, zs1, zs0, w6, w7]
        exact hK0 (i5, j5, swp d1 i4 j4) _ _ (by simp only; omega) (by simp [upF, Fr.get, Up.refl]) ⟨by simp only; omega, by simp only; omega, by simp only; omega, by rw [size_swp]; exact hsz, hQ1.swp z1 z2, hS4.trans hSD, hAD, hO⟩

end Go.Proofs.YtfnegaedkomcgaaGreat
end
