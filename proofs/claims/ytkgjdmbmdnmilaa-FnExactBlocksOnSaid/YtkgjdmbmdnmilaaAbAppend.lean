/- The abstract append and its tie to the model's. No statement of the seat is proved here; it holds for every program. -/
import Derived.Test.YtkgjdmbmdnmilaaAbHeap
set_option linter.all false
namespace Go.Ab
open Go.RowKit (Below)

/-- What the logic asks of a type. -/
structure TI where
  desc : TypeDesc
  size : Nat
  bytes : Nat
  zero : Value

def ti (P : Program) (t : TypeId) : Option TI :=
  match P.underlying t, P.info? t with
  | some d, some i => match i.zero with
    | some z => if z.cells.size = i.size then some ⟨d, i.size, i.bytes, z⟩ else none
    | none => none
  | _, _ => none

theorem ti_inv {P : Program} {t : TypeId} {τ : TI} (h : ti P t = some τ) :
    ∃ i, P.underlying t = some τ.desc ∧ P.info? t = some i ∧ i.size = τ.size ∧ i.bytes = τ.bytes ∧ i.zero = some τ.zero ∧ τ.zero.cells.size = τ.size := by
  unfold ti at h
  cases hu : P.underlying t with
  | none => simp [hu] at h
  | some d =>
    cases hi : P.info? t with
    | none => simp [hu, hi] at h
    | some i =>
      cases hz : i.zero with
      | none => simp [hu, hi, hz] at h
      | some z =>
        simp only [hu, hi, hz] at h
        split at h
        · cases h; rename_i hs; exact ⟨i, rfl, rfl, rfl, rfl, hz, hs⟩
        · cases h

theorem add_zero_addr (b o k : Nat) : (⟨b, o, none⟩ : Addr).add k = ⟨b, o + k, none⟩ := by unfold Addr.add; split <;> simp_all

def ownAt (H : Heap) (i : Nat) : Bool := match H[i]? with | some b => b.live && b.own | none => false

theorem ownAt_inv {H : Heap} {i : Nat} (h : ownAt H i = true) : ∃ b, H[i]? = some b ∧ b.live = true ∧ b.own = true := by
  unfold ownAt at h
  cases hb : H[i]? with
  | none => simp [hb] at h
  | some b => simp [hb] at h; exact ⟨b, rfl, h.1, h.2⟩

/-- A block that stands for no memory. -/
def ghostAt (H : Heap) (i : Nat) : Bool :=
  match H[i]? with
  | some b => !b.live && !b.own
  | none => false

theorem ghostAt_inv {H : Heap} {i : Nat} (h : ghostAt H i = true) : ∃ b, H[i]? = some b ∧ b.live = false ∧ b.own = false := by
  unfold ghostAt at h
  cases hb : H[i]? with
  | none => simp [hb] at h
  | some b => simp [hb] at h; exact ⟨b, rfl, h.1, h.2⟩

/-- append: 'news' are the cells of n elements, each of e cells. -/
def appendH (H : Heap) (e : Nat) (s : Value) (n : Nat) (news : List Value) : Option (Value × Heap) :=
  match s with
  | .slice a k c =>
    if n = 0 then some (.slice a k c, H) else
    match a with
    | none => if k = 0 then some (.slice (some ⟨H.length, 0, some e⟩) n n, H ++ [⟨news, true, true⟩]) else none
    | some ⟨i, o, none⟩ => match cellsAt H i o (k * e) with
      | some old => some (.slice (some ⟨H.length, 0, some e⟩) (k + n) (k + n), H ++ [⟨old ++ news, true, true⟩])
      | none => none
    | some ⟨i, o, some e'⟩ => if e' = e ∧ k = 0 ∧ 0 < e ∧ ghostAt H i = true then some (.slice (some ⟨H.length, 0, some e⟩) n n, H ++ [⟨news, true, true⟩])
      else if e' = e ∧ ownAt H i = true then match cellsAt H i o (k * e) with
        | some old => some (.slice (some ⟨H.length, 0, some e⟩) (k + n) (k + n), H.kill i ++ [⟨old ++ news, true, true⟩])
        | none => none
      else none
  | _ => none

section
variable {P : Program}

theorem run_append_zero (w : World) (t ty e : TypeId) (i : TypeInfo) (ht : P.underlying t = some (.slice e)) (hi : P.info? e = some i) (base : Option Addr) (k c : Nat) (hk : k ≤ c) (a : Option Addr) (c' : Nat) :
    (Builtin.append_ #[t, t] ty #[.slice base k c, .slice a 0 c']).run P w = .ok (.slice base k c) w := by
  cases base with
  | none => cases a <;> simp [Builtin.append_, run_underlying ht, sizeOf, typeInfo, hi, Builtin.lenOf, hk, Builtin.firstCells, loadCells, loadCellsFrom]
  | some b => cases a <;> simp [Builtin.append_, run_underlying ht, sizeOf, typeInfo, hi, Builtin.lenOf, hk, Builtin.firstCells, loadCells, loadCellsFrom, storeCells]

theorem run_append_place (w : World) (t ty e : TypeId) (i : TypeInfo) (ht : P.underlying t = some (.slice e)) (hi : P.info? e = some i)
    (g o k c : Nat) (cur : Array Value) (el : TypeId) (hg : w.heap[g]? = some (.cells cur el (0, 0)))
    (a : Addr) (m c' : Nat) (news : List Value) (hl : news.length = m * i.size) (hnews : ∀ (j : Nat) (u : Value), news[j]? = some u → w.cell? (a.add j) = some u) (h1 : ∀ u ∈ news, u.oneCell' = true)
    (hroom : k + m ≤ c) (hfit : o + k * i.size + news.length ≤ cur.size) :
    (Builtin.append_ #[t, t] ty #[.slice (some ⟨g, o, none⟩) k c, .slice (some a) m c']).run P w =
      .ok (.slice (some ⟨g, o, none⟩) (k + m) c) (w.setRow g (over cur.toList (o + k * i.size) news).toArray) := by
  have hf := run_firstCells_some (P := P) w i.size m a m c' news hl hnews
  have hst := run_storeCells_at P g (o + k * i.size) el news 0 cur w hg (by simpa using hfit) h1
  simp only [Nat.add_zero] at hst
  simp [Builtin.append_, run_underlying ht, sizeOf, typeInfo, hi, Builtin.lenOf, hroom, hf, add_zero_addr, hst, over]

/-- The append of the model, tied. -/
theorem R.append {B : Nat} {w0 : World} {ρ : Rho} {H H' : Heap} {w : World} (h : R B w0 ρ H w) {t ty te : TypeId} {τ : TI} (ht : P.underlying t = some (.slice te)) (hτ : ti P te = some τ)
    {s v' : Value} {n : Nat} {news : List Value} (hap : appendH H τ.size s n news = some (v', H'))
    {cs cx : Value} (hs : VR ρ s cs) {ax : Option Addr} {cc : Nat} (hcx : cx = .slice ax n cc)
    {dn : List Value} (hdl : dn.length = n * τ.size) (hdr : VRs ρ news dn) (hd1 : ∀ v ∈ dn, v.oneCell' = true)
    (hdc : 0 < n → ∃ a, ax = some a ∧ ∀ (j : Nat) (v : Value), dn[j]? = some v → w.cell? (a.add j) = some v)
    (hbig : (∀ a k c, s = .slice a k c → (k + n) * τ.bytes ≤ 140737488355328 ∧ k + n ≤ 140737488355328)) :
    ∃ cv w' ρ', (Builtin.append_ #[t, t] ty #[cs, cx]).run P w = .ok cv w' ∧ ρ <+: ρ' ∧ R B w0 ρ' H' w' ∧ VR ρ' v' cv := by
  obtain ⟨ii, hu, hi, hsz, hby, hz, hzs⟩ := ti_inv hτ
  subst hcx
  cases s with
  | slice a k c =>
    obtain ⟨hb1, hb2⟩ := hbig a k c rfl
    by_cases hn : n = 0
    · subst hn
      simp only [appendH, if_true, Option.some.injEq, Prod.mk.injEq] at hap
      obtain ⟨rfl, rfl⟩ := hap
      cases hs with
      | sliceNil => exact ⟨_, w, ρ, run_append_zero w t ty te ii ht hi none 0 0 (Nat.le_refl _) ax cc, List.prefix_refl _, h, .sliceNil⟩
      | sliceEx i o n l hl => exact ⟨_, w, ρ, run_append_zero w t ty te ii ht hi _ _ _ (Nat.le_refl _) ax cc, List.prefix_refl _, h, .sliceEx _ _ _ _ hl⟩
      | sliceUnk i o e n o' c l hl h1 h2 h3 => exact ⟨_, w, ρ, run_append_zero w t ty te ii ht hi _ _ _ h2 ax cc, List.prefix_refl _, h, .sliceUnk _ _ _ _ _ _ _ hl h1 h2 h3⟩
      | sliceZero i o e a => exact ⟨_, w, ρ, run_append_zero w t ty te ii ht hi _ _ _ (Nat.le_refl _) ax cc, List.prefix_refl _, h, .sliceZero _ _ _ _⟩
    · obtain ⟨ad, rfl, hcell⟩ := hdc (by omega)
      have hnews : ∀ (j : Nat) (v : Value), dn[j]? = some v → w.cell? (ad.add j) = some v := hcell
      -- a new block that holds the old cells and the new ones
      have fresh : ∀ (H0 : Heap) (ρ0 : Rho) (w1 : World) (old dold : List Value) (need cap : Nat), R B w0 ρ0 H0 w1 → ρ0.length = H0.length → VRs ρ0 old dold → (∀ v ∈ dold, v.oneCell' = true) → VRs ρ0 news dn →
          dold.length + dn.length = need * τ.size → need ≤ cap →
          R B w0 (ρ0 ++ [⟨w1.heap.size, 0, (dold.toArray ++ dn.toArray ++ Builtin.zeroCells τ.zero.cells (cap - need)).size⟩]) (H0 ++ [⟨old ++ news, true, true⟩])
            (w1.alloc (.cells (dold.toArray ++ dn.toArray ++ Builtin.zeroCells τ.zero.cells (cap - need)) te)) ∧
          VR (ρ0 ++ [⟨w1.heap.size, 0, (dold.toArray ++ dn.toArray ++ Builtin.zeroCells τ.zero.cells (cap - need)).size⟩]) (.slice (some ⟨H0.length, 0, some τ.size⟩) need need) (.slice (some ⟨w1.heap.size, 0, none⟩) need cap) := by
        intro H0 ρ0 w1 old dold need cap hR hlen0 hro h1o hrn hlen hcap
        have hsize : (dold.toArray ++ dn.toArray ++ Builtin.zeroCells τ.zero.cells (cap - need)).size = cap * τ.size := by
          simp only [Array.size_append, List.size_toArray, size_zeroCells, hzs]
          rw [hlen, ← Nat.add_mul]; congr 1; omega
        refine ⟨hR.alloc (old ++ news) _ te ?_, ?_⟩
        · intro j v hj
          have hapd := hro.append hrn
          have hlt : j < (dold ++ dn).length := by
            have : j < (old ++ news).length := (List.getElem?_eq_some_iff.1 hj).1
            rw [← hapd.1]; exact this
          have hd : (dold ++ dn)[j]? = some (dold ++ dn)[j] := List.getElem?_eq_getElem hlt
          have hvr := hapd.2 j v _ hj hd
          have hone : ((dold ++ dn)[j]).oneCell' = true := by
            have hm : (dold ++ dn)[j] ∈ dold ++ dn := List.getElem_mem hlt
            rcases List.mem_append.1 hm with hm | hm
            · exact h1o _ hm
            · exact hd1 _ hm
          refine ⟨by rw [hvr.oneCell]; exact hone, (dold ++ dn)[j], ?_, hvr⟩
          have e : (dold.toArray ++ dn.toArray) = (dold ++ dn).toArray := by simp
          rw [e, Array.getElem?_append_left (by simpa using hlt)]
          simp only [List.getElem?_toArray]; exact hd
        · refine .sliceUnk _ _ _ _ _ _ (⟨w1.heap.size, 0, (dold.toArray ++ dn.toArray ++ Builtin.zeroCells τ.zero.cells (cap - need)).size⟩ : Loc) ?_ (.inl (by simp)) hcap ?_
          · rw [List.getElem?_append_right (by rw [hlen0]; exact Nat.le_refl _), hlen0]; simp
          · rw [hsize]; simp
      have hneed63 : ∀ k, (k + n) ≤ 140737488355328 → ((k + n : Nat) : Int) ≤ 9223372036854775807 := by intro k hk; omega
      simp only [appendH, if_neg hn] at hap
      cases hs with
      | sliceNil =>
        simp only [if_true, Option.some.injEq, Prod.mk.injEq] at hap
        obtain ⟨rfl, rfl⟩ := hap
        have hr := run_append_nil (P := P) w t ty te ii τ.zero ht hi hz ad n cc dn (by rw [hsz]; exact hdl) hnews (by omega) (by have := hneed63 0; simp at this; omega) (by rw [hby]; simp at hb1; omega)
        have hfr := fresh H ρ w.drew [] [] n (grownCap w n 0 te) h.drew h.len (VRs.nil _) (by simp) hdr (by simpa using hdl) (grownCap_ge w n 0 te)
        simp only [List.nil_append, Array.empty_append, show ([] : List Value).toArray = #[] from rfl] at hfr hr
        exact ⟨_, _, _, hr, List.prefix_append _ _, hfr⟩
      | sliceEx i o k l hl =>
        simp only at hap
        cases hc : Ab.cellsAt H i o (k * τ.size) with
        | none => simp [hc] at hap
        | some old =>
          simp only [hc, Option.some.injEq, Prod.mk.injEq] at hap
          obtain ⟨rfl, rfl⟩ := hap
          obtain ⟨l', dold, hl', hlen, hro, h1o, hcell'⟩ := h.cellsAt hc
          rw [hl] at hl'; cases hl'
          have hdlen : dold.length = k * τ.size := by rw [← hro.1]; exact hlen
          have hr := run_append_grow (P := P) w t ty te ii τ.zero ht hi hz ⟨l.blk, l.off + o, none⟩ k k dold (by rw [hsz]; exact hdlen) (fun j v hj => by rw [add_zero_addr]; exact hcell' j v hj)
            ad n cc dn (by rw [hsz]; exact hdl) hnews (by omega) (hneed63 k hb2) (by rw [hby]; exact growslice_fits (by omega) hb1)
          have hfr := fresh H ρ w.drew old dold (k + n) (grownCap w (k + n) k te) h.drew h.len hro h1o hdr (by rw [hdlen, hdl, Nat.add_mul]) (grownCap_ge w (k + n) k te)
          exact ⟨_, _, _, hr, List.prefix_append _ _, hfr⟩
      | sliceZero i o e a =>
        -- no room: a new block, whatever the heap says of the old one
        have key : ∀ (H0 : Heap), R B w0 ρ H0 w → H0.length = H.length → ∃ cv w' ρ', (Builtin.append_ #[t, t] ty #[.slice a 0 0, .slice (some ad) n cc]).run P w = .ok cv w' ∧ ρ <+: ρ' ∧ R B w0 ρ' (H0 ++ [⟨[] ++ news, true, true⟩]) w' ∧ VR ρ' (.slice (some ⟨H0.length, 0, some τ.size⟩) n n) cv := by
          intro H0 hR0 hl0
          have hr : (Builtin.append_ #[t, t] ty #[.slice a 0 0, .slice (some ad) n cc]).run P w = .ok (.slice (some ⟨w.drew.heap.size, 0, none⟩) n (grownCap w n 0 te)) (w.drew.alloc (.cells (dn.toArray ++ Builtin.zeroCells τ.zero.cells (grownCap w n 0 te - n)) te)) := by
            cases a with
            | none => exact run_append_nil (P := P) w t ty te ii τ.zero ht hi hz ad n cc dn (by rw [hsz]; exact hdl) hnews (by omega) (by have := hneed63 0; simp at this; omega) (by rw [hby]; simp at hb1; omega)
            | some a =>
              have := run_append_grow (P := P) w t ty te ii τ.zero ht hi hz a 0 0 [] (by simp) (by simp) ad n cc dn (by rw [hsz]; exact hdl) hnews (by omega) (by have := hneed63 0; simp at this; simpa using by omega) (by rw [hby]; exact growslice_fits (by omega) hb1)
              simpa using this
          have hfr := fresh H0 ρ w.drew [] [] n (grownCap w n 0 te) hR0.drew hR0.len (VRs.nil _) (by simp) hdr (by simpa using hdl) (grownCap_ge w n 0 te)
          simp only [List.nil_append, Array.empty_append, show ([] : List Value).toArray = #[] from rfl] at hfr hr ⊢
          exact ⟨_, _, _, hr, List.prefix_append _ _, hfr⟩
        simp only at hap
        split at hap
        · simp only [Option.some.injEq, Prod.mk.injEq] at hap
          obtain ⟨rfl, rfl⟩ := hap
          obtain ⟨cv, w', ρ', h1, h2, h3, h4⟩ := key H h rfl
          exact ⟨cv, w', ρ', h1, h2, by simpa using h3, h4⟩
        · split at hap
          · cases hc : Ab.cellsAt H i o (0 * τ.size) with
            | none => rw [hc] at hap; cases hap
            | some old =>
              simp only [hc, Option.some.injEq, Prod.mk.injEq] at hap
              obtain ⟨rfl, rfl⟩ := hap
              obtain ⟨l', dold, hl', hlen, hro, h1o, hcell'⟩ := h.cellsAt hc
              have : old = [] := List.eq_nil_of_length_eq_zero (by simpa using hlen)
              subst this
              obtain ⟨cv, w', ρ', h1, h2, h3, h4⟩ := key (H.kill i) (h.kill i) (Heap.kill_length H i)
              rw [Heap.kill_length] at h4
              exact ⟨cv, w', ρ', h1, h2, h3, by simpa using h4⟩
          · cases hap
      | sliceUnk i o e k o' c l hl h1 h2 h3 =>
        simp only at hap
        split at hap
        · rename_i hcond
          obtain ⟨rfl, rfl, hpos, hgh⟩ := hcond
          simp only [Option.some.injEq, Prod.mk.injEq] at hap
          obtain ⟨rfl, rfl⟩ := hap
          obtain ⟨gb, hgb, hgl, hgo⟩ := ghostAt_inv hgh
          have hsz0 := h.ghost i gb l hgb hl hgl hgo
          rw [hsz0] at h3
          have hc0 : c = 0 := by
            rcases Nat.eq_zero_or_pos c with hc | hc
            · exact hc
            · have := Nat.mul_pos hc hpos; omega
          subst hc0
          have hr := run_append_grow (P := P) w t ty te ii τ.zero ht hi hz ⟨l.blk, o', none⟩ 0 0 [] (by simp) (by simp) ad n cc dn (by rw [hsz]; exact hdl) hnews (by omega) (by have := hneed63 0; simp at this; simpa using by omega) (by rw [hby]; exact growslice_fits (by omega) hb1)
          have hfr := fresh H ρ w.drew [] [] n (grownCap w n 0 te) h.drew h.len (VRs.nil _) (by simp) hdr (by simpa using hdl) (grownCap_ge w n 0 te)
          simp only [List.nil_append, Array.empty_append, Nat.zero_add, show ([] : List Value).toArray = #[] from rfl] at hfr hr
          exact ⟨_, _, _, hr, List.prefix_append _ _, hfr⟩
        split at hap
        · rename_i hcond
          obtain ⟨rfl, hown⟩ := hcond
          cases hc : Ab.cellsAt H i o (k * τ.size) with
          | none => simp [hc] at hap
          | some old =>
            simp only [hc, Option.some.injEq, Prod.mk.injEq] at hap
            obtain ⟨rfl, rfl⟩ := hap
            obtain ⟨l', dold, hl', hlen, hro, h1o, hcell'⟩ := h.cellsAt hc
            rw [hl] at hl'; cases hl'
            have hdlen : dold.length = k * τ.size := by rw [← hro.1]; exact hlen
            have hkl : (H.kill i).length = H.length := Heap.kill_length H i
            have holds : ∀ (j : Nat) (v : Value), dold[j]? = some v → w.cell? ⟨l.blk, o' + j, none⟩ = some v := by
              intro j v hj
              have hjlt : j < dold.length := (List.getElem?_eq_some_iff.1 hj).1
              have hk0 : k ≠ 0 := by intro e; rw [hdlen, e] at hjlt; simp at hjlt
              have e : o' = l.off + o := by rcases h1 with h1 | h1; exact h1; exact absurd h1.1 hk0
              rw [e]; exact hcell' j v hj
            by_cases hroom : k + n ≤ c
            · -- in place
              obtain ⟨b, hbb, hbl, hbo⟩ := ownAt_inv hown
              obtain ⟨cur, el, fz, hg, hcs, _, ho⟩ := h.blk i b l hbb hl hbl
              obtain ⟨hBl, rfl⟩ := ho hbo
              have hfit : o' + k * τ.size + dn.length ≤ cur.size := by
                rw [← hcs, hdl]
                have : (k + n) * τ.size ≤ c * τ.size := Nat.mul_le_mul_right _ hroom
                rw [Nat.add_mul] at this; omega
              have hr := run_append_place (P := P) w t ty te ii ht hi l.blk o' k c cur el hg ad n cc dn (by rw [hsz]; exact hdl) hnews hd1 hroom (by rw [hsz]; exact hfit)
              rw [hsz] at hr
              have hlt : i < H.length := (List.getElem?_eq_some_iff.1 hbb).1
              have hsz' : (over cur.toList (o' + k * τ.size) dn).toArray.size = cur.size := by simp [over_length (cs := cur.toList) (vs := dn) (o := o' + k * τ.size) (by simpa using hfit)]
              have hpre : ρ <+: ρ ++ [⟨l.blk, o', l.size⟩] := List.prefix_append _ _
              refine ⟨_, _, ρ ++ [⟨l.blk, o', l.size⟩], hr, hpre, ?_, ?_⟩
              · have hother : ∀ m : Nat, m ≠ l.blk → (w.setRow l.blk (over cur.toList (o' + k * τ.size) dn).toArray).heap[m]? = w.heap[m]? := fun m hm => setRow_other w l.blk m _ hm
                have getH : ∀ (j : Nat) (d : Blk), ((H.kill i) ++ [(⟨old ++ news, true, true⟩ : Blk)])[j]? = some d → d.live = true → (H[j]? = some d ∧ j ≠ i ∧ j < H.length) ∨ (j = H.length ∧ d = ⟨old ++ news, true, true⟩) := by
                  intro j d hd hdl
                  rcases Nat.lt_or_ge j H.length with hj | hj
                  · rw [List.getElem?_append_left (by rw [hkl]; exact hj)] at hd
                    obtain ⟨h5, h6⟩ := Heap.kill_get H i j d hd hdl
                    exact .inl ⟨h5, h6, hj⟩
                  · rw [List.getElem?_append_right (by rw [hkl]; exact hj), hkl] at hd
                    cases hk : j - H.length with
                    | zero => rw [hk] at hd; simp at hd; exact .inr ⟨by omega, hd.symm⟩
                    | succ q => rw [hk] at hd; simp at hd
                have getρ : ∀ (j : Nat) (m : Loc), (ρ ++ [(⟨l.blk, o', l.size⟩ : Loc)])[j]? = some m → (j < H.length → ρ[j]? = some m) ∧ (j = H.length → m = ⟨l.blk, o', l.size⟩) := by
                  intro j m hm
                  refine ⟨fun hj => ?_, fun hj => ?_⟩
                  · rw [List.getElem?_append_left (by rw [h.len]; exact hj)] at hm; exact hm
                  · rw [List.getElem?_append_right (by rw [h.len]; omega), h.len, hj] at hm; simpa using hm.symm
                refine ⟨by simp [h.len, hkl], h.below.trans ⟨rfl, rfl, rfl, by simp, fun m hm => hother m (by omega)⟩, by simpa using h.base, ?_, ?_, ?_⟩
                · intro j d m hd hm hdl
                  rcases getH j d hd hdl with ⟨h5, h6, h7⟩ | ⟨hj, rfl⟩
                  · have hmρ := (getρ j m hm).1 h7
                    refine (h.blk j d m h5 hmρ hdl).kept hpre (hother m.blk ?_)
                    exact fun e => h.apart i j b d l m (fun e => h6 e.symm) hbb h5 hl hmρ hbl hdl hbo e.symm
                  · have := (getρ j m hm).2 hj
                    subst this
                    refine ⟨_, el, (0, 0), setRow_heap w l.blk cur _ el _ hg, by rw [hsz']; exact hcs, ?_, fun _ => ⟨hBl, rfl⟩⟩
                    intro q v hq
                    have hapd := hro.append hdr
                    have hlt' : q < (dold ++ dn).length := by
                      have : q < (old ++ news).length := (List.getElem?_eq_some_iff.1 hq).1
                      rw [← hapd.1]; exact this
                    have hd' : (dold ++ dn)[q]? = some (dold ++ dn)[q] := List.getElem?_eq_getElem hlt'
                    have hvr := hapd.2 q v _ hq hd'
                    have hone : ((dold ++ dn)[q]).oneCell' = true := by
                      rcases List.mem_append.1 (List.getElem_mem hlt') with hm | hm
                      · exact h1o _ hm
                      · exact hd1 _ hm
                    refine ⟨by rw [hvr.oneCell]; exact hone, (dold ++ dn)[q], ?_, hvr.mono hpre⟩
                    simp only [List.getElem?_toArray]
                    rw [over_get (by simpa using hfit)]
                    by_cases hqk : q < k * τ.size
                    · have e1 : (dold ++ dn)[q]? = dold[q]? := List.getElem?_append_left (by omega)
                      rw [e1] at hd'
                      have hcq := holds q _ hd'
                      rw [if_pos (by omega)]
                      simpa [World.cell?, hg] using hcq
                    · have e1 : (dold ++ dn)[q]? = dn[q - dold.length]? := List.getElem?_append_right (by omega)
                      rw [e1] at hd'
                      rw [if_neg (by omega), if_pos (by simp at hlt'; omega), ← hd']
                      congr 1; omega
                · intro j q d f m n' hjq hd hf hm hn' hdl hfl hdo
                  rcases getH j d hd hdl with ⟨h5, h6, h7⟩ | ⟨hj, rfl⟩
                  · have hmρ := (getρ j m hm).1 h7
                    rcases getH q f hf hfl with ⟨h8, h9, h10⟩ | ⟨hq, rfl⟩
                    · exact h.apart j q d f m n' hjq h5 h8 hmρ ((getρ q n' hn').1 h10) hdl hfl hdo
                    · have := (getρ q n' hn').2 hq
                      subst this
                      exact h.apart j i d b m l h6 h5 hbb hmρ hl hdl hbl hdo
                  · have := (getρ j m hm).2 hj
                    subst this
                    rcases getH q f hf hfl with ⟨h8, h9, h10⟩ | ⟨hq, rfl⟩
                    · exact h.apart i q b f l n' (fun e => h9 e.symm) hbb h8 hl ((getρ q n' hn').1 h10) hbl hfl hbo
                    · omega
                · intro j d m hd hm hdl hdo
                  rcases Nat.lt_or_ge j H.length with hj | hj
                  · rw [List.getElem?_append_left (by rw [hkl]; exact hj)] at hd
                    exact h.ghost j d m (Heap.kill_ghost H i j d hd hdo) ((getρ j m hm).1 hj) hdl hdo
                  · rw [List.getElem?_append_right (by rw [hkl]; exact hj), hkl] at hd
                    cases hk : j - H.length with
                    | zero => rw [hk] at hd; simp at hd; subst hd; cases hdl
                    | succ q => rw [hk] at hd; simp at hd
              · refine .sliceUnk _ _ _ _ _ _ ⟨l.blk, o', l.size⟩ ?_ (.inl (by simp)) hroom h3
                rw [List.getElem?_append_right (by rw [h.len]; exact Nat.le_refl _), h.len]; simp
            · -- a new block
              have hr := run_append_grow (P := P) w t ty te ii τ.zero ht hi hz ⟨l.blk, o', none⟩ k c dold (by rw [hsz]; exact hdlen) (fun j v hj => by rw [add_zero_addr]; exact holds j v hj)
                ad n cc dn (by rw [hsz]; exact hdl) hnews (by omega) (hneed63 k hb2) (by rw [hby]; exact growslice_fits (by omega) hb1)
              have hfr := fresh (H.kill i) ρ w.drew old dold (k + n) (grownCap w (k + n) c te) (h.kill i).drew (by rw [hkl]; exact h.len) hro h1o hdr (by rw [hdlen, hdl, Nat.add_mul]) (grownCap_ge w (k + n) c te)
              rw [hkl] at hfr
              exact ⟨_, _, _, hr, List.prefix_append _ _, hfr⟩
        · cases hap
  | _ => simp [appendH] at hap
end
end Go.Ab
