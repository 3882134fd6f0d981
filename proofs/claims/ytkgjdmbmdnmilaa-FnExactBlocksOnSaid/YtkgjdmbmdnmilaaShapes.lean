/- The arguments' shapes: numbers, lists, systems. It holds for every program that has these types. -/
import Derived.Test.YtkgjdmbmdnmilaaLawSquareOf
import Derived.Test.YtkgjdmbmdnmilaaBlocks
set_option linter.all false
set_option maxRecDepth 20000
namespace Go.Proofs.Ytkgjdmbmdnmilaa
open Go.Ab

/-- A number that 64 bits hold. -/
def In64 (n : Int) : Prop := -9223372036854775808 ≤ n ∧ n ≤ 9223372036854775807
theorem In64.of_wf {n : Int} (h : (Lit.int .i64 n).wf = true) : In64 n := by
  simp only [Lit.wf, Bool.and_eq_true, decide_eq_true_eq] at h
  have h1 : IntKind.i64.min = -9223372036854775808 := rfl
  have h2 : IntKind.i64.max = 9223372036854775807 := rfl
  rw [h1, h2] at h
  exact h
theorem says_shInt' {H : Heap} {v : Value} (h : shInt.says H v) : ∃ n : Int, v = .int .i64 n ∧ In64 n := by
  obtain ⟨n, h1, h2⟩ := says_shInt h
  exact ⟨n, h1, In64.of_wf h2⟩

/-- As IntsAt, but the length is only what 64 bits hold. -/
def IntsAt0 (H : Heap) (v : Value) (xs : List Int) : Prop := ∃ i o, v = lv 1 i o xs.length ∧ At H i o (ints xs) ∧ xs.length ≤ 9223372036854775807
theorem IntsAt0.at {H : Heap} {v : Value} {xs : List Int} (h : IntsAt0 H v xs) (hl : xs.length ≤ 140737488355328) : IntsAt H v xs := by
  obtain ⟨i, o, h1, h2, _⟩ := h; exact ⟨i, o, h1, h2, hl⟩
theorem IntsAt0.pre {H H' : Heap} (hp : H <+: H') {v : Value} {xs : List Int} (h : IntsAt0 H v xs) : IntsAt0 H' v xs := by
  obtain ⟨i, o, h1, h2, h3⟩ := h; exact ⟨i, o, h1, h2.pre hp, h3⟩
def BlocksAt0 (H : Heap) (v : Value) (bs : List Bk) : Prop := ∃ i o, v = lv 3 i o bs.length ∧ At H i o (tri bs) ∧ bs.length ≤ 9223372036854775807
theorem BlocksAt0.at {H : Heap} {v : Value} {bs : List Bk} (h : BlocksAt0 H v bs) (hl : bs.length ≤ 140737488355328) : BlocksAt H v bs := by
  obtain ⟨i, o, h1, h2, _⟩ := h; exact ⟨i, o, h1, h2, hl⟩
theorem BlocksAt0.pre {H H' : Heap} (hp : H <+: H') {v : Value} {bs : List Bk} (h : BlocksAt0 H v bs) : BlocksAt0 H' v bs := by
  obtain ⟨i, o, h1, h2, h3⟩ := h; exact ⟨i, o, h1, h2.pre hp, h3⟩
def IntssAt0 (H : Heap) (v : Value) (xss : List (List Int)) : Prop :=
  ∃ i o vs, v = lv 1 i o xss.length ∧ vs.length = xss.length ∧ At H i o vs ∧ (∀ (k : Nat) (v : Value) (xs : List Int), vs[k]? = some v → xss[k]? = some xs → IntsAt0 H v xs) ∧ xss.length ≤ 9223372036854775807
theorem IntssAt0.at {H : Heap} {v : Value} {xss : List (List Int)} (h : IntssAt0 H v xss) (hl : xss.length ≤ 140737488355328) (hls : ∀ xs ∈ xss, xs.length ≤ 140737488355328) : IntssAt H v xss := by
  obtain ⟨i, o, vs, h1, h2, h3, h4, _⟩ := h
  exact ⟨i, o, vs, h1, h2, h3, fun k v xs hv hx => (h4 k v xs hv hx).at (hls xs (List.mem_of_getElem? hx)), hl⟩
theorem IntssAt0.pre {H H' : Heap} (hp : H <+: H') {v : Value} {xss : List (List Int)} (h : IntssAt0 H v xss) : IntssAt0 H' v xss := by
  obtain ⟨i, o, vs, h1, h2, h3, h4, h5⟩ := h
  exact ⟨i, o, vs, h1, h2, h3.pre hp, fun k v xs hv hx => (h4 k v xs hv hx).pre hp, h5⟩

/-- Cells that are numbers, one by one. -/
theorem ints_of_many {H : Heap} : ∀ {es : List (List Value)}, (∀ e ∈ es, cInt .i64 H e ∧ e.length = 1) → ∃ xs : List Int, es.flatten = ints xs ∧ xs.length = es.length ∧ ∀ x ∈ xs, In64 x
  | [], _ => ⟨[], rfl, rfl, by simp⟩
  | e :: es, h => by
    obtain ⟨xs, h1, h2, h3⟩ := ints_of_many (es := es) fun e he => h e (List.mem_cons_of_mem _ he)
    obtain ⟨⟨n, hn, hw⟩, _⟩ := h e List.mem_cons_self
    refine ⟨n :: xs, by simp [hn, h1, ints], by simp [h2], ?_⟩
    intro x hx
    rcases List.mem_cons.1 hx with rfl | hx
    · exact In64.of_wf hw
    · exact h3 x hx

def shInts : Shape := ⟨50, false, cSl 1 (cInt .i64)⟩
theorem fits_shInts {D : Type} {enc : TypeId × Value → D} (W : World) : shInts.fits enc Try.prog W :=
  ⟨cSl_stable (cInt_stable _), open_cSl Try.underlying50 (by kernel_rfl) (by omega) (cInt_stable _) (open_cInt Try.underlying2), by show (match Try.prog.underlying 50 with | _ => _); rw [Try.underlying50]; rfl⟩
theorem says_ints {H : Heap} {v : Value} (h : cSl 1 (cInt .i64) H [v]) : ∃ xs, IntsAt0 H v xs ∧ ∀ x ∈ xs, In64 x := by
  obtain ⟨id, es, h1, h2, h3, h4⟩ := h
  obtain ⟨xs, h5, h6, h7⟩ := ints_of_many h3
  simp only [List.cons.injEq, and_true] at h1
  refine ⟨xs, ⟨id, 0, by rw [h1, h6], ?_, by rw [h6]; exact h4⟩, h7⟩
  rcases h2 with rfl | h2
  · left; rw [← h5]; rfl
  · right; rw [← h5, show es.flatten.length = es.length * 1 by rw [h5, ints_length, h6]; omega]; exact h2
theorem says_shInts {H : Heap} {v : Value} (h : shInts.says H v) : ∃ xs, IntsAt0 H v xs ∧ ∀ x ∈ xs, In64 x := says_ints h

def shIntss : Shape := ⟨23, false, cSl 1 (cSl 1 (cInt .i64))⟩
theorem fits_shIntss {D : Type} {enc : TypeId × Value → D} (W : World) : shIntss.fits enc Try.prog W :=
  ⟨cSl_stable (cSl_stable (cInt_stable _)), open_cSl Try.underlying23 (by kernel_rfl) (by omega) (cSl_stable (cInt_stable _)) (open_cSl Try.underlying50 (by kernel_rfl) (by omega) (cInt_stable _) (open_cInt Try.underlying2)), by show (match Try.prog.underlying 23 with | _ => _); rw [Try.underlying23]; rfl⟩
theorem intss_of_many {H : Heap} : ∀ {es : List (List Value)}, (∀ e ∈ es, cSl 1 (cInt .i64) H e ∧ e.length = 1) → ∃ (vs : List Value) (xss : List (List Int)), es.flatten = vs ∧ vs.length = es.length ∧ xss.length = es.length ∧ (∀ (k : Nat) (v : Value) (xs : List Int), vs[k]? = some v → xss[k]? = some xs → IntsAt0 H v xs) ∧ ∀ xs ∈ xss, ∀ x ∈ xs, In64 x
  | [], _ => ⟨[], [], rfl, rfl, rfl, by simp, by simp⟩
  | e :: es, h => by
    obtain ⟨vs, xss, h1, h2, h3, h4, h5⟩ := intss_of_many (es := es) fun e he => h e (List.mem_cons_of_mem _ he)
    obtain ⟨hc, hl⟩ := h e List.mem_cons_self
    obtain ⟨v, rfl⟩ : ∃ v, e = [v] := by
      match e, hl with
      | [v], _ => exact ⟨v, rfl⟩
    obtain ⟨xs, h6, h7⟩ := says_ints hc
    refine ⟨v :: vs, xs :: xss, by simp [h1], by simp [h2], by simp [h3], ?_, ?_⟩
    · intro k u ys hu hy
      cases k with
      | zero => simp at hu hy; subst hu; subst hy; exact h6
      | succ k => exact h4 k u ys (by simpa using hu) (by simpa using hy)
    · intro ys hy
      rcases List.mem_cons.1 hy with rfl | hy
      · exact h7
      · exact h5 ys hy
theorem says_shIntss {H : Heap} {v : Value} (h : shIntss.says H v) : ∃ xss, IntssAt0 H v xss ∧ ∀ xs ∈ xss, ∀ x ∈ xs, In64 x := by
  obtain ⟨id, es, h1, h2, h3, h4⟩ := h
  obtain ⟨vs, xss, h5, h6, h7, h8, h9⟩ := intss_of_many h3
  simp only [List.cons.injEq, and_true] at h1
  refine ⟨xss, ⟨id, 0, vs, by rw [h1, h7], by omega, ?_, h8, by rw [h7]; exact h4⟩, h9⟩
  rcases h2 with rfl | h2
  · left; rw [← h5]; rfl
  · right; rw [← h5, show es.flatten.length = es.length * 1 by rw [h5, h6]; omega]; exact h2

theorem bk_of_many {H : Heap} {e : List Value} (h : cMany (cInt .i64) 3 H e) : ∃ b : Bk, e = b.cells ∧ In64 b.a ∧ In64 b.b ∧ In64 b.c := by
  obtain ⟨es, h1, h2, h3⟩ := h
  match es, h1 with
  | [x, y, z], _ =>
    obtain ⟨a, rfl, ha⟩ := h3 x (by simp)
    obtain ⟨b, rfl, hb⟩ := h3 y (by simp)
    obtain ⟨c, rfl, hc⟩ := h3 z (by simp)
    exact ⟨⟨a, b, c⟩, by simp [h2, Bk.cells], In64.of_wf ha, In64.of_wf hb, In64.of_wf hc⟩
theorem bks_of_many {H : Heap} : ∀ {es : List (List Value)}, (∀ e ∈ es, cMany (cInt .i64) 3 H e ∧ e.length = 3) → ∃ bs : List Bk, es.flatten = tri bs ∧ bs.length = es.length ∧ ∀ b ∈ bs, In64 b.a ∧ In64 b.b ∧ In64 b.c
  | [], _ => ⟨[], rfl, rfl, by simp⟩
  | e :: es, h => by
    obtain ⟨bs, h1, h2, h3⟩ := bks_of_many (es := es) fun e he => h e (List.mem_cons_of_mem _ he)
    obtain ⟨b, hb, hw⟩ := bk_of_many (h e List.mem_cons_self).1
    refine ⟨b :: bs, by simp [hb, h1, tri_cons], by simp [h2], ?_⟩
    intro x hx
    rcases List.mem_cons.1 hx with rfl | hx
    · exact hw
    · exact h3 x hx

abbrev cBks : Heap → List Value → Prop := cSl 3 (cMany (cInt .i64) 3)
theorem says_bks {H : Heap} {v : Value} (h : cBks H [v]) : ∃ bs, BlocksAt0 H v bs ∧ ∀ b ∈ bs, In64 b.a ∧ In64 b.b ∧ In64 b.c := by
  obtain ⟨id, es, h1, h2, h3, h4⟩ := h
  obtain ⟨bs, h5, h6, h7⟩ := bks_of_many h3
  simp only [List.cons.injEq, and_true] at h1
  refine ⟨bs, ⟨id, 0, by rw [h1, h6], ?_, by rw [h6]; exact h4⟩, h7⟩
  rcases h2 with rfl | h2
  · left; rw [← h5]; rfl
  · right; rw [← h5, show es.flatten.length = es.length * 3 by rw [h5, tri_length, h6]]; exact h2
theorem open_bks {D : Type} {enc : TypeId × Value → D} (W : World) : OpenC enc Try.prog W 29 cBks :=
  open_cSl Try.underlying29 (by kernel_rfl) (by omega) (cMany_stable (cInt_stable _) 3) (open_cArr (c := 1) Try.underlying94 (by kernel_rfl) (by kernel_rfl) (cInt_stable _) (open_cInt Try.underlying2))

def shSystem : Shape := ⟨31, true, cFields [cInt .i64, cBks]⟩
theorem fits_shSystem {D : Type} {enc : TypeId × Value → D} (W : World) : shSystem.fits enc Try.prog W :=
  ⟨cFields_stable _ (by intro p hp; simp only [List.mem_cons, List.not_mem_nil, or_false] at hp; rcases hp with rfl | rfl; exact cInt_stable _; exact cSl_stable (cMany_stable (cInt_stable _) 3)),
   open_cStruct Try.underlying31 (by kernel_rfl) ⟨by kernel_rfl, by kernel_rfl, cInt_stable _, open_cInt Try.underlying2, by kernel_rfl, by kernel_rfl, cSl_stable (cMany_stable (cInt_stable _) 3), open_bks W, trivial⟩,
   by show (match Try.prog.underlying 31 with | _ => _); rw [Try.underlying31]; rfl⟩
theorem says_shSystem {H : Heap} {v : Value} (h : shSystem.says H v) : ∃ p u bs, v = sysV p u ∧ In64 p ∧ BlocksAt0 H u bs ∧ ∀ b ∈ bs, In64 b.a ∧ In64 b.b ∧ In64 b.c := by
  obtain ⟨acs, rfl, x, us, rfl, ⟨p, h1, h2⟩, y, us', rfl, h3, rfl⟩ := h
  simp only [List.cons.injEq, and_true] at h1
  subst h1
  obtain ⟨bs, h4, h5⟩ := says_bks h3
  exact ⟨p, y, bs, rfl, In64.of_wf h2, h4, h5⟩

theorem szBlockS0_ok {H : Heap} {u : Value} {bs : List Bk} {k : Int} (hu : BlocksAt0 H u bs) (hk0 : 0 ≤ k) (hk : k ≤ 1048576) (Post : Value → Heap → Prop) (h : Post (.int .i64 (if k < bs.length then -1 else k - bs.length)) H) :
    ACalls Try.prog 90 [u, .int .i64 k] H Post := by
  obtain ⟨i, o, rfl, h1, h2⟩ := hu
  refine acalls_vc (rs := [.tmp 4]) Try.func90 rfl rfl Try.ntmps90 rfl rfl ?_
  have hw : IntKind.i64.wrap (k - bs.length) = k - bs.length := i64w (by omega) (by omega)
  simp (maxSteps := 1000000) [go_sem, hw]
  refine condK_intro (fun h1 => ?_) (fun h1 => ?_)
  · rw [if_pos (by simp at h1; omega)] at h; exact h
  · rw [if_neg (by simp at h1; omega)] at h; exact h

theorem szSystem0_ok {H : Heap} {u : Value} {p : Int} {bs : List Bk} {k : Int} (hu : BlocksAt0 H u bs) (hk0 : 0 ≤ k) (hk : k ≤ 1048576) (Post : Value → Heap → Prop) (h : ∀ H', H <+: H' → Post (.int .i64 (if k < bs.length then -1 else k - bs.length)) H') :
    ACalls Try.prog 30 [sysV p u, .int .i64 k] H Post := by
  obtain ⟨i, o, hu', h1, h2⟩ := hu
  refine acalls_vc (rs := [.tmp 4]) Try.func30 rfl rfl Try.ntmps30 rfl rfl ?_
  subst hu'
  simp (maxSteps := 1000000) [go_sem, sysV, Value.oneCell']
  refine szBlockS0_ok ⟨i, o, rfl, h1.pre (List.prefix_append _ _), h2⟩ hk0 hk _ ?_
  simp (maxSteps := 1000000) [go_sem]
  refine condK_intro (fun h1 => ?_) (fun h1 => ?_)
  · by_cases hb : k < bs.length
    · have := h _ (List.prefix_append H [⟨[.int .i64 p, lv 3 i o bs.length], true, true⟩])
      rwa [if_pos hb] at this
    · rw [if_neg hb] at h1; simp at h1; omega
  · exact h _ (List.prefix_append _ _)

theorem szInt64S0_ok {H : Heap} {u : Value} {xs : List Int} {k : Int} (hu : IntsAt0 H u xs) (hk0 : 0 ≤ k) (hk : k ≤ 1048576) (Post : Value → Heap → Prop) (h : Post (.int .i64 (if k < xs.length then -1 else k - xs.length)) H) :
    ACalls Try.prog 145 [u, .int .i64 k] H Post := by
  obtain ⟨i, o, rfl, h1, h2⟩ := hu
  refine acalls_vc (rs := [.tmp 4]) Try.func145 rfl rfl Try.ntmps145 rfl rfl ?_
  have hw : IntKind.i64.wrap (k - xs.length) = k - xs.length := i64w (by omega) (by omega)
  simp (maxSteps := 1000000) [go_sem, hw]
  refine condK_intro (fun h1 => ?_) (fun h1 => ?_)
  · rw [if_pos (by simp at h1; omega)] at h; exact h
  · rw [if_neg (by simp at h1; omega)] at h; exact h

end Go.Proofs.Ytkgjdmbmdnmilaa
