/- Regions that draw their order: the invariant lasts over an operation; at the end all is as the run in the text's order has it. -/
import Derived.Test.YtdojljjiekgapaaGreatDoorAbDraw3
set_option linter.unusedVariables false
set_option linter.unusedSimpArgs false
namespace Go.Ab
/-- What an operation turns. -/
structure Eff (E : Env) (ops : Array Oper) (tr : Nat → St) (μ : Mu) (w : World) (j : Nat) (o : Oper) (μ1 : Mu) (w' : World) : Prop where
  ext : Ext (restr μ (tr j).heap.length) μ1
  new : ∀ id L, μ1 id = some L → restr μ (tr j).heap.length id = some L ∨ (tr j).heap.length ≤ id
  dom : ∀ id L, μ1 id = some L → id < (tr (j + 1)).heap.length
  blk : ∀ id L b, μ1 id = some L → (ftO o = true ∨ (tr j).heap.length ≤ id) → (tr (j + 1)).heap[id]? = some (some b) → BlkRel E.P μ1 L b w'
  inj : ∀ i1 L1 b1 i2 L2 b2, i1 ≠ i2 → μ1 i1 = some L1 → (ftO o = true ∨ (tr j).heap.length ≤ i1) → (tr (j + 1)).heap[i1]? = some (some b1) → μ1 i2 = some L2 → (ftO o = true ∨ (tr j).heap.length ≤ i2) → (tr (j + 1)).heap[i2]? = some (some b2) →
    L1.md = .wr → L2.md ≠ .z → L1.b ≠ L2.b
  keep : ∀ b, b < w.heap.size → (ftO o = true → ¬ Owned (restr μ (tr j).heap.length) (tr j).heap b) → w'.heap[b]? = w.heap[b]?
  own : ∀ id L b, μ1 id = some L → (ftO o = true ∨ (tr j).heap.length ≤ id) → (tr (j + 1)).heap[id]? = some (some b) → L.md = .wr → L.b < w.heap.size → ftO o = true ∧ Owned (restr μ (tr j).heap.length) (tr j).heap L.b
  frs : ∀ id L, μ1 id = some L → restr μ (tr j).heap.length id = none → L.md ≠ .z → w.heap.size ≤ L.b ∨ (ftO o = true ∧ Owned (restr μ (tr j).heap.length) (tr j).heap L.b)
  out : ftO o = true → ∀ id, id < (tr j).heap.length → restr μ (tr j).heap.length id = none → (tr (j + 1)).heap[id]? = (tr j).heap[id]?
  rev : ftO o = true → ∀ id L b, restr μ (tr j).heap.length id = some L → (tr (j + 1)).heap[id]? = some (some b) → ∃ b0, (tr j).heap[id]? = some (some b0)
  size : w.heap.size ≤ w'.heap.size
  os : w'.os = w.os
  tape : w'.tape = w.tape
  output : w'.output = w.output
section
variable {E : Env} {call : Fun} {ops : Array Oper} {tr : Nat → St} {μ0 : Mu} {w0 : World} {S : Nat → Prop} {m : Nat} {μ : Mu} {a : Act} {w : World}
theorem Eff.of_touch {j : Nat} {o : Oper} {μ1 : Mu} {w' : World} (ht : ftO o = true) (h : Stp E.P (restr μ (tr j).heap.length) (tr j).heap w μ1 (tr (j + 1)).heap w') : Eff E ops tr μ w j o μ1 w' where
  ext := h.ext
  new := h.new
  dom := h.rel.dom
  blk := fun id L b hl _ hb => h.rel.blk id L b hl hb
  inj := fun i1 L1 b1 i2 L2 b2 hne h1 _ hb1 h2 _ hb2 => h.rel.inj i1 L1 b1 i2 L2 b2 hne h1 hb1 h2 hb2
  keep := fun b hb ho => h.keep b hb (ho ht)
  own := fun id L b hl _ hb hw hlt => ⟨ht, h.own _ ⟨id, L, b, hl, hb, hw, rfl⟩ hlt⟩
  frs := fun id L hl hn hz => (h.frs id L hl hn hz).imp (fun x => x) fun hh => ⟨ht, hh⟩
  out := fun _ => h.out
  rev := fun _ => h.rev
  size := h.size
  os := h.os
  tape := h.tape
  output := h.output
theorem Eff.of_pure {j : Nat} {o : Oper} {μ1 : Mu} {w' : World} {D : Heap} (ht : ftO o = false) (hh : (tr (j + 1)).heap = (tr j).heap ++ D)
    (h : Stp E.P (restr μ (tr j).heap.length) (List.replicate (tr j).heap.length none) w μ1 (List.replicate (tr j).heap.length none ++ D) w') : Eff E ops tr μ w j o μ1 w' := by
  have hno : ∀ (n : Nat) (b : Nat), ¬ Owned (restr μ (tr j).heap.length) (List.replicate n none) b := by
    rintro n b ⟨id, L, blk, _, hb, _⟩
    rw [List.getElem?_replicate] at hb
    split at hb <;> simp at hb
  have hget : ∀ id, (tr j).heap.length ≤ id → (List.replicate (tr j).heap.length none ++ D)[id]? = (tr (j + 1)).heap[id]? := by
    intro id hid
    rw [hh, List.getElem?_append_right (by simpa using hid), List.getElem?_append_right hid]
    simp
  have hA : ∀ {id : Nat}, (ftO o = true ∨ (tr j).heap.length ≤ id) → (tr j).heap.length ≤ id := by
    intro id h
    rcases h with h | h
    · rw [ht] at h; cases h
    · exact h
  exact {
    ext := h.ext
    new := fun id L hl => (h.new id L hl).imp (fun x => x) fun hx => by simpa using hx
    dom := fun id L hl => by have := h.rel.dom id L hl; rw [hh]; simpa using this
    blk := fun id L b hl hid hb => h.rel.blk id L b hl (by rw [hget id (hA hid)]; exact hb)
    inj := fun i1 L1 b1 i2 L2 b2 hne h1 hi1 hb1 h2 hi2 hb2 => h.rel.inj i1 L1 b1 i2 L2 b2 hne h1 (by rw [hget i1 (hA hi1)]; exact hb1) h2 (by rw [hget i2 (hA hi2)]; exact hb2)
    keep := fun b hb _ => h.keep b hb (hno _ b)
    own := fun id L b hl hid hb hw hlt => absurd (h.own L.b ⟨id, L, b, hl, by rw [hget id (hA hid)]; exact hb, hw, rfl⟩ hlt) (hno _ _)
    frs := fun id L hl hn hz => (h.frs id L hl hn hz).imp (fun x => x) fun hx => absurd hx (hno _ _)
    out := fun h => by rw [ht] at h; cases h
    rev := fun h => by rw [ht] at h; cases h
    size := h.size
    os := h.os
    tape := h.tape
    output := h.output }
theorem Eff.of_rd {j : Nat} {o : Oper} (ht : ftO o = false) (hh : (tr (j + 1)).heap = (tr j).heap) : Eff E ops tr μ w j o (restr μ (tr j).heap.length) w where
  ext := Ext.refl _
  new := fun id L hl => .inl hl
  dom := fun id L hl => by rw [hh]; exact (restr_some.1 hl).1
  blk := fun id L b hl hor _ => by
    have := (restr_some.1 hl).1
    rcases hor with h | h
    · rw [ht] at h; cases h
    · omega
  inj := fun i1 L1 b1 i2 L2 b2 _ hl hor => by
    have := (restr_some.1 hl).1
    rcases hor with h | h
    · rw [ht] at h; cases h
    · omega
  keep := fun b _ _ => rfl
  own := fun id L b hl hor => by
    have := (restr_some.1 hl).1
    rcases hor with h | h
    · rw [ht] at h; cases h
    · omega
  frs := fun id L hl hn => by rw [hl] at hn; cases hn
  out := fun h => by rw [ht] at h; cases h
  rev := fun h => by rw [ht] at h; cases h
  size := Nat.le_refl _
  os := rfl
  tape := rfl
  output := rfl
/-- What is there, where the operation touches memory. -/
theorem Inv.cutAt (hI : Inv E ops tr μ0 w0 S m μ a w) (hD : DS E ops) (hT : Trc E call ops tr) {j : Nat} {o : Oper} (ho : ops[j]? = some o) (hj : ¬ S j) (hd : ∀ i ∈ direct o, S i) (ht : ftO o = true) {id : Nat} (hid : id < (tr j).heap.length) :
    ∃ c, Cut ops tr m id c ∧ (tr c).heap[id]? = (tr j).heap[id]? ∧ ((c ≤ j) ∨ (j ≤ c ∧ Sm tr id j c)) := by
  have hjn : j < ops.size := (Array.getElem?_eq_some_iff.1 ho).1
  obtain ⟨h1, h2, h3, h4⟩ := hI.cuts hD ho hj hd ht
  rcases Nat.lt_or_ge j m with hlt | hge
  · have hwo : wrtO E o = false := by
      cases hw : wrtO E o with
      | false => rfl
      | true => have := h4 hw; omega
    have hnw := h3 hwo
    exact ⟨m, ⟨Nat.le_refl _, hI.wm.1, Nat.lt_of_lt_of_le hid (hT.len (by omega) hI.wm.1), fun c' hc1 hc2 => by omega⟩, hT.nw (by omega) hI.wm.1 hnw hid, .inr ⟨by omega, Sm.nw hT (by omega) hI.wm.1 hnw hid⟩⟩
  · obtain ⟨c, hcj, hc⟩ := Cut.ex (ops := ops) (tr := tr) hge (show j ≤ ops.size by omega) hid
    have hnw : NW E ops c j := fun i o h1 h2' hi => h2 i o (Nat.le_trans hc.le h1) h2' hi
    exact ⟨c, hc, (hT.nw hcj (by omega) hnw hc.lt).symm, .inl hcj⟩
theorem Inv.relAt (hI : Inv E ops tr μ0 w0 S m μ a w) (hD : DS E ops) (hT : Trc E call ops tr) {j : Nat} {o : Oper} (ho : ops[j]? = some o) (hj : ¬ S j) (hd : ∀ i ∈ direct o, S i) (ht : ftO o = true) :
    Rel E.P (restr μ (tr j).heap.length) (tr j).heap w where
  dom := fun id L hl => (restr_some.1 hl).1
  blk := fun id L b hl hb => by
    obtain ⟨hid, hμ⟩ := restr_some.1 hl
    obtain ⟨c, hc, heq, hor⟩ := hI.cutAt hD hT ho hj hd ht hid
    have hjn : j < ops.size := (Array.getElem?_eq_some_iff.1 ho).1
    rw [hb] at heq
    rcases hor with hcj | ⟨hjc, hnw⟩
    · have := hI.blk id L b c hμ hc heq c hc.lt (Nat.le_refl _) (Sm.refl _ _)
      have he : Ext (restr μ (tr c).heap.length) (restr μ (tr j).heap.length) := restr_mono (hT.len hcj (by omega)) fun _ _ _ h => h
      exact this.of_any he
    · exact hI.blk id L b c hμ hc heq j hid hjc hnw
  inj := fun i1 L1 b1 i2 L2 b2 hne h1 hb1 h2 hb2 hw hz => by
    obtain ⟨hid1, hμ1⟩ := restr_some.1 h1
    obtain ⟨hid2, hμ2⟩ := restr_some.1 h2
    obtain ⟨c1, hc1, heq1, _⟩ := hI.cutAt hD hT ho hj hd ht hid1
    obtain ⟨c2, hc2, heq2, _⟩ := hI.cutAt hD hT ho hj hd ht hid2
    rw [hb1] at heq1
    rw [hb2] at heq2
    exact hI.inj i1 L1 b1 c1 i2 L2 b2 c2 hne hμ1 hc1 heq1 hμ2 hc2 heq2 hw hz
/-- An id's place among the operations' new ones. -/
theorem Inv.notnew (hI : Inv E ops tr μ0 w0 S m μ a w) (hT : Trc E call ops tr) {j : Nat} (hjn : j < ops.size) (hj : ¬ S j) {id : Nat} {L : Loc} (hl : μ id = some L) (h1 : (tr j).heap.length ≤ id) (h2 : id < (tr (j + 1)).heap.length) : False := by
  rcases hI.dom id L hl with h | ⟨i, hSi, h3, h4⟩
  · have := hT.len (Nat.zero_le j) (by omega); omega
  · obtain ⟨oi, hoi, _⟩ := hI.down i hSi
    have hin : i < ops.size := (Array.getElem?_eq_some_iff.1 hoi).1
    rcases Nat.lt_trichotomy i j with h | h | h
    · have := hT.len (show i + 1 ≤ j from h) (by omega); omega
    · subst h; exact hj hSi
    · have := hT.len (show j + 1 ≤ i from h) (by omega); omega
end
end Go.Ab
