/- What an abstract value, an abstract heap say of the machine's values and memory; what one step of the abstract run may turn. -/
import Derived.Test.YtdojljjiekgapaaGreatDoorAbTabs
import Derived.Room.AppendUpon
import Derived.Deep.MidRow
import Derived.Laws.MakeOwn
import Derived.Laws.StructEq
import Derived.Laws.AppendOwn
set_option linter.unusedVariables false
set_option linter.unusedSimpArgs false
namespace Go.Ab

structure All2 {α β : Type} (R : α → β → Prop) (as : List α) (bs : List β) : Prop where
  len : as.length = bs.length
  at_ : ∀ (i : Nat) (a : α) (b : β), as[i]? = some a → bs[i]? = some b → R a b
namespace All2
variable {α β : Type} {R S : α → β → Prop} {as as' : List α} {bs bs' : List β}
theorem nil : All2 R ([] : List α) ([] : List β) := ⟨rfl, by simp⟩
theorem cons {a : α} {b : β} (h : R a b) (t : All2 R as bs) : All2 R (a :: as) (b :: bs) := ⟨by simp [t.len], fun i x y hx hy => by
  cases i with
  | zero => simp at hx hy; subst hx; subst hy; exact h
  | succ i => exact t.at_ i x y (by simpa using hx) (by simpa using hy)⟩
theorem head {a : α} {b : β} (h : All2 R (a :: as) (b :: bs)) : R a b := h.at_ 0 a b rfl rfl
theorem tail {a : α} {b : β} (h : All2 R (a :: as) (b :: bs)) : All2 R as bs := ⟨by simpa using h.len, fun i x y hx hy => h.at_ (i + 1) x y (by simpa using hx) (by simpa using hy)⟩
theorem nil_left (h : All2 R ([] : List α) bs) : bs = [] := List.eq_nil_of_length_eq_zero (by simpa using h.len.symm)
theorem cons_left {a : α} (h : All2 R (a :: as) bs) : ∃ b bs', bs = b :: bs' ∧ R a b ∧ All2 R as bs' := by
  cases bs with
  | nil => have := h.len; simp at this
  | cons b bs => exact ⟨b, bs, rfl, h.head, h.tail⟩
theorem mono (h : All2 R as bs) (hs : ∀ a b, R a b → S a b) : All2 S as bs := ⟨h.len, fun i a b ha hb => hs a b (h.at_ i a b ha hb)⟩
theorem append (h : All2 R as bs) (h' : All2 R as' bs') : All2 R (as ++ as') (bs ++ bs') := ⟨by simp [h.len, h'.len], fun i a b ha hb => by
  rcases Nat.lt_or_ge i as.length with hl | hl
  · rw [List.getElem?_append_left hl] at ha
    rw [List.getElem?_append_left (by rw [← h.len]; exact hl)] at hb
    exact h.at_ i a b ha hb
  · rw [List.getElem?_append_right hl] at ha
    rw [List.getElem?_append_right (by rw [← h.len]; exact hl), ← h.len] at hb
    exact h'.at_ _ a b ha hb⟩
theorem take (h : All2 R as bs) (n : Nat) : All2 R (as.take n) (bs.take n) := ⟨by simp [h.len], fun i a b ha hb => by
  rw [List.getElem?_take] at ha hb
  split at ha
  · rename_i hl; simp only [hl, if_true] at hb; exact h.at_ i a b ha hb
  · simp at ha⟩
theorem drop (h : All2 R as bs) (n : Nat) : All2 R (as.drop n) (bs.drop n) := ⟨by simp [h.len], fun i a b ha hb => by
  rw [List.getElem?_drop] at ha hb; exact h.at_ _ a b ha hb⟩
theorem set (h : All2 R as bs) (n : Nat) {a : α} {b : β} (hr : R a b) : All2 R (as.set n a) (bs.set n b) := ⟨by simp [h.len], fun i x y hx hy => by
  rw [List.getElem?_set] at hx hy
  by_cases hi : n = i
  · subst hi
    simp only [if_true] at hx hy
    by_cases hl : n < as.length
    · simp [hl] at hx; simp [← h.len, hl] at hy; subst hx; subst hy; exact hr
    · simp [hl] at hx
  · simp only [hi, if_false] at hx hy; exact h.at_ i x y hx hy⟩
theorem replicate (n : Nat) {a : α} {b : β} (hr : R a b) : All2 R (List.replicate n a) (List.replicate n b) := ⟨by simp, fun i x y hx hy => by
  rw [List.getElem?_replicate] at hx hy
  split at hx <;> simp_all⟩
theorem get (h : All2 R as bs) {i : Nat} {a : α} (ha : as[i]? = some a) : ∃ b, bs[i]? = some b ∧ R a b := by
  have hl : i < as.length := (List.getElem?_eq_some_iff.1 ha).1
  have hl' : i < bs.length := by rw [← h.len]; exact hl
  exact ⟨bs[i], List.getElem?_eq_getElem hl', h.at_ i a _ ha (List.getElem?_eq_getElem hl')⟩
theorem map {γ : Type} {f : γ → α} {g : γ → β} (l : List γ) (h : ∀ x, x ∈ l → R (f x) (g x)) : All2 R (l.map f) (l.map g) := ⟨by simp, fun i a b ha hb => by
  rw [List.getElem?_map] at ha hb
  cases hx : l[i]? with
  | none => simp [hx] at ha
  | some x => simp [hx] at ha hb; subst ha; subst hb; exact h x (List.mem_of_getElem? hx)⟩
end All2

/-- Where a block lies: the machine's block, from which cell on; a row's size; how many rows; how it is held; the elements' type; the block's cells in all. -/
structure Loc where
  b : Nat
  o : Nat
  sz : Nat
  n : Nat
  md : Md
  elem : Nat
  cells : Nat
abbrev Mu := Nat → Option Loc

def PRel (μ : Mu) (a : Nat × Nat × Nat) (v : Value) : Prop := ∃ L, μ a.1 = some L ∧ v = .pointer (some ⟨L.b, L.o + a.2.1 * L.sz + a.2.2, none⟩)
def LRel (μ : Mu) (l : Lf) (v : Value) : Prop :=
  match l with
  | .b x => v = .bool x
  | .i k n => v = .int k n
  | .s x => v = .string x
  | .p none => v = .pointer none
  | .p (some a) => PRel μ a v
  | .sl none len => len = 0 ∧ v = .slice none 0 0
  | .sl (some (id, r)) len => ∃ L a cap, μ id = some L ∧ v = .slice (some a) len cap ∧ len ≤ cap ∧ (0 < cap → a = ⟨L.b, L.o + r * L.sz, none⟩) ∧ (L.md = .z → cap = 0) ∧
      (L.md = .wr → L.n ≤ r + cap ∧ (0 < cap → L.o + (r + cap) * L.sz ≤ L.cells))
  | .fn f first cap => ∃ fs cs : List Value, v = .func (.func f) fs.toArray cs.toArray ∧ All2 (PRel μ) first fs ∧ All2 (PRel μ) cap cs
def WRel (μ : Mu) (x : W) (v : Value) : Prop :=
  match x with
  | .lf l => LRel μ l v
  | .agg cs => ∃ vs : List Value, v = .agg vs.toArray ∧ All2 (LRel μ) cs vs
def VRel (μ : Mu) (x : V) (v : Value) : Prop :=
  match x with
  | .w x => WRel μ x v
  | .tup ws => ∃ vs : List Value, v = .tuple vs.toArray ∧ All2 (WRel μ) ws vs
  | .bad => True
def Ext (μ μ' : Mu) : Prop := ∀ id L, μ id = some L → μ' id = some L
theorem Ext.refl (μ : Mu) : Ext μ μ := fun _ _ h => h
theorem Ext.trans {μ μ' μ'' : Mu} (h : Ext μ μ') (h' : Ext μ' μ'') : Ext μ μ'' := fun id L hl => h' id L (h id L hl)
theorem PRel.ext {μ μ' : Mu} (he : Ext μ μ') {a : Nat × Nat × Nat} {v : Value} (h : PRel μ a v) : PRel μ' a v := let ⟨L, hl, hv⟩ := h; ⟨L, he _ L hl, hv⟩
theorem LRel.ext {μ μ' : Mu} (he : Ext μ μ') {l : Lf} {v : Value} (h : LRel μ l v) : LRel μ' l v := by
  cases l with
  | p a => cases a with
    | none => exact h
    | some a => exact PRel.ext he h
  | sl a len =>
    rcases a with _ | ⟨id, r⟩
    · exact h
    · obtain ⟨L, a, cap, hl, h⟩ := h; exact ⟨L, a, cap, he _ _ hl, h⟩
  | fn f first cap => obtain ⟨fs, cs, hv, h1, h2⟩ := h; exact ⟨fs, cs, hv, h1.mono fun _ _ => PRel.ext he, h2.mono fun _ _ => PRel.ext he⟩
  | _ => exact h
theorem WRel.ext {μ μ' : Mu} (he : Ext μ μ') {x : W} {v : Value} (h : WRel μ x v) : WRel μ' x v := by
  cases x with
  | lf l => exact LRel.ext he h
  | agg cs => obtain ⟨vs, hv, h⟩ := h; exact ⟨vs, hv, h.mono fun _ _ => LRel.ext he⟩
theorem VRel.ext {μ μ' : Mu} (he : Ext μ μ') {x : V} {v : Value} (h : VRel μ x v) : VRel μ' x v := by
  cases x with
  | w x => exact WRel.ext he h
  | tup ws => obtain ⟨vs, hv, h⟩ := h; exact ⟨vs, hv, h.mono fun _ _ => WRel.ext he⟩
  | bad => trivial
/-- A leaf is one cell. -/
theorem LRel.one {μ : Mu} {l : Lf} {v : Value} (h : LRel μ l v) : v.oneCell' = true := by
  cases l with
  | p a => cases a with
    | none => simp only [LRel] at h; subst h; rfl
    | some a => obtain ⟨L, _, rfl⟩ := h; rfl
  | sl a len =>
    rcases a with _ | ⟨id, r⟩
    · obtain ⟨_, rfl⟩ := h; rfl
    · obtain ⟨L, a, cap, _, rfl, _⟩ := h; rfl
  | fn f first cap => obtain ⟨fs, cs, rfl, _⟩ := h; rfl
  | _ => simp only [LRel] at h; subst h; rfl
theorem LRel.cells {μ : Mu} {l : Lf} {v : Value} (h : LRel μ l v) : v.cells = #[v] := by
  have := h.one
  cases v <;> simp_all [Value.cells, Value.oneCell']
/-- The ids that a leaf names are known. -/
def PKnown (μ : Mu) (a : Nat × Nat × Nat) : Prop := ∃ L, μ a.1 = some L
theorem PRel.back {μ μ' : Mu} (he : Ext μ μ') {a : Nat × Nat × Nat} {v v0 : Value} (h0 : PRel μ a v0) (h : PRel μ' a v) : PRel μ a v := by
  obtain ⟨L, hl, hv⟩ := h
  obtain ⟨L0, hl0, _⟩ := h0
  have := he _ _ hl0
  rw [hl] at this
  exact ⟨L, by rw [hl0, ← this], hv⟩
theorem LRel.back {μ μ' : Mu} (he : Ext μ μ') {l : Lf} {v v0 : Value} (h0 : LRel μ l v0) (h : LRel μ' l v) : LRel μ l v := by
  cases l with
  | p a => cases a with
    | none => exact h
    | some a => exact PRel.back he h0 h
  | sl a len =>
    rcases a with _ | ⟨id, r⟩
    · exact h
    · obtain ⟨L, a, cap, hl, h⟩ := h
      obtain ⟨L0, a0, cap0, hl0, _⟩ := h0
      have := he _ _ hl0
      rw [hl] at this
      exact ⟨L, a, cap, by rw [hl0, ← this], h⟩
  | fn f first cap =>
    obtain ⟨fs, cs, hv, h1, h2⟩ := h
    obtain ⟨fs0, cs0, hv0, h10, h20⟩ := h0
    refine ⟨fs, cs, hv, ⟨h1.len, fun i a b ha hb => ?_⟩, ⟨h2.len, fun i a b ha hb => ?_⟩⟩
    · obtain ⟨b0, hb0, hr⟩ := h10.get ha; exact PRel.back he hr (h1.at_ i a b ha hb)
    · obtain ⟨b0, hb0, hr⟩ := h20.get ha; exact PRel.back he hr (h2.at_ i a b ha hb)
  | _ => exact h

/-- A block that is read or owned lies in memory as told. -/
structure BlkRel (P : Program) (μ : Mu) (L : Loc) (b : Blk) (w : World) : Prop where
  elem : b.elem = L.elem
  md : b.md = L.md
  rows : b.rows.length = L.n
  sz : L.sz = P.cellsOf L.elem
  row : ∀ (r : Nat) (row : List Lf), b.rows[r]? = some row → row.length = L.sz
  cell : ∀ (r : Nat) (row : List Lf), b.rows[r]? = some row → ∀ (k : Nat) (l : Lf), row[k]? = some l → ∃ v, w.cell? ⟨L.b, L.o + r * L.sz + k, none⟩ = some v ∧ LRel μ l v
  z : L.md = .z → L.n = 0
  lt : L.md ≠ .z → L.b < w.heap.size
  own : L.md = .wr → w.shape? L.b = some (L.elem, L.cells) ∧ (∀ o, w.frozen? ⟨L.b, o, none⟩ = false) ∧ L.o + L.n * L.sz ≤ L.cells
  whl : L.md = .wr → noW L.elem = false → L.o = 0 ∧ L.cells = L.sz
structure Rel (P : Program) (μ : Mu) (H : Heap) (w : World) : Prop where
  dom : ∀ id L, μ id = some L → id < H.length
  blk : ∀ id L b, μ id = some L → H[id]? = some (some b) → BlkRel P μ L b w
  inj : ∀ i1 L1 b1 i2 L2 b2, i1 ≠ i2 → μ i1 = some L1 → H[i1]? = some (some b1) → μ i2 = some L2 → H[i2]? = some (some b2) → L1.md = .wr → L2.md ≠ .z → L1.b ≠ L2.b
/-- The machine's blocks that are owned. -/
def Owned (μ : Mu) (H : Heap) (b : Nat) : Prop := ∃ id L blk, μ id = some L ∧ H[id]? = some (some blk) ∧ L.md = .wr ∧ L.b = b
/-- What a step may turn. -/
structure Stp (P : Program) (μ : Mu) (H : Heap) (w : World) (μ' : Mu) (H' : Heap) (w' : World) : Prop where
  ext : Ext μ μ'
  new : ∀ id L, μ' id = some L → μ id = some L ∨ H.length ≤ id
  rel : Rel P μ' H' w'
  len : H.length ≤ H'.length
  size : w.heap.size ≤ w'.heap.size
  keep : ∀ b, b < w.heap.size → ¬ Owned μ H b → w'.heap[b]? = w.heap[b]?
  own : ∀ b, Owned μ' H' b → b < w.heap.size → Owned μ H b
  frs : ∀ id L, μ' id = some L → μ id = none → L.md ≠ .z → w.heap.size ≤ L.b ∨ Owned μ H L.b
  out : ∀ id, id < H.length → μ id = none → H'[id]? = H[id]?
  rev : ∀ id L b, μ id = some L → H'[id]? = some (some b) → ∃ b0, H[id]? = some (some b0)
  os : w'.os = w.os
  tape : w'.tape = w.tape
  output : w'.output = w.output
theorem Stp.refl {P : Program} {μ : Mu} {H : Heap} {w : World} (h : Rel P μ H w) : Stp P μ H w μ H w :=
  ⟨Ext.refl _, fun _ _ h => .inl h, h, Nat.le_refl _, Nat.le_refl _, fun _ _ _ => rfl, fun _ h _ => h, (fun id L h1 h2 => by rw [h1] at h2; cases h2), fun _ _ _ => rfl, fun _ _ b _ h => ⟨b, h⟩, rfl, rfl, rfl⟩
theorem Stp.trans {P : Program} {μ μ' μ'' : Mu} {H H' H'' : Heap} {w w' w'' : World} (h : Stp P μ H w μ' H' w') (h' : Stp P μ' H' w' μ'' H'' w'') : Stp P μ H w μ'' H'' w'' where
  ext := h.ext.trans h'.ext
  new := fun id L hl => (h'.new id L hl).elim (h.new id L) fun hh => .inr (Nat.le_trans h.len hh)
  rel := h'.rel
  len := Nat.le_trans h.len h'.len
  size := Nat.le_trans h.size h'.size
  keep := fun b hb ho => (h'.keep b (Nat.lt_of_lt_of_le hb h.size) fun hh => ho (h.own b hh hb)).trans (h.keep b hb ho)
  own := fun b ho hb => h.own b (h'.own b ho (Nat.lt_of_lt_of_le hb h.size)) hb
  frs := fun id L hl hn hz => by
    cases hm : μ' id with
    | some L' =>
      have := h'.ext id L' hm
      rw [hl] at this
      injection this with this
      subst this
      exact h.frs id L hm hn hz
    | none =>
      rcases h'.frs id L hl hm hz with h1 | h1
      · exact .inl (Nat.le_trans h.size h1)
      · rcases Nat.lt_or_ge L.b w.heap.size with h2 | h2
        · exact .inr (h.own _ h1 h2)
        · exact .inl h2
  out := fun id hid hn => by
    have hm : μ' id = none := by
      cases hm : μ' id with
      | none => rfl
      | some L =>
        rcases h.new id L hm with h1 | h1
        · rw [hn] at h1; cases h1
        · omega
    exact (h'.out id (Nat.lt_of_lt_of_le hid h.len) hm).trans (h.out id hid hn)
  rev := fun id L b hl hb => let ⟨b1, h1⟩ := h'.rev id L b (h.ext id L hl) hb; h.rev id L b1 hl h1
  os := h'.os.trans h.os
  tape := h'.tape.trans h.tape
  output := h'.output.trans h.output
/-- Where nothing owned has been written, what was told is told still. -/
theorem BlkRel.of_block {P : Program} {μ μ' : Mu} (he : Ext μ μ') {L : Loc} {b : Blk} {w w' : World} (h : BlkRel P μ L b w) (hb : w'.heap[L.b]? = w.heap[L.b]?) : BlkRel P μ' L b w' where
  elem := h.elem
  md := h.md
  rows := h.rows
  sz := h.sz
  row := h.row
  z := h.z
  whl := h.whl
  lt := fun hz => by
    have hl := h.lt hz
    rcases Nat.lt_or_ge L.b w'.heap.size with h' | h'
    · exact h'
    · rw [Array.getElem?_eq_none h', Array.getElem?_eq_getElem hl] at hb; cases hb
  cell := fun r row hr k l hl => let ⟨v, hv, hrel⟩ := h.cell r row hr k l hl; ⟨v, by rw [World.cell?_of_block (a := ⟨L.b, _, none⟩) hb]; exact hv, hrel.ext he⟩
  own := fun hw => by
    obtain ⟨h1, h2, h3⟩ := h.own hw
    refine ⟨?_, fun o => by rw [World.frozen?_of_block (a := ⟨L.b, o, none⟩) hb]; exact h2 o, h3⟩
    unfold World.shape? at h1 ⊢; rw [hb]; exact h1
theorem BlkRel.of_any {P : Program} {μ μ' : Mu} {L : Loc} {b : Blk} {w : World} (h : BlkRel P μ L b w) (he : Ext μ μ') : BlkRel P μ' L b w := h.of_block he rfl
theorem BlkRel.cell_lt {P : Program} {μ : Mu} {L : Loc} {b : Blk} {w : World} (h : BlkRel P μ L b w) {r k : Nat} {row : List Lf} {l : Lf} (hr : b.rows[r]? = some row) (hk : row[k]? = some l) : L.b < w.heap.size := by
  obtain ⟨v, hv, _⟩ := h.cell r row hr k l hk
  exact World.block_lt_of_cell? w _ hv
theorem shape_lt {w : World} {b e n : Nat} (h : w.shape? b = some (e, n)) : b < w.heap.size := by
  rcases Nat.lt_or_ge b w.heap.size with h' | h'
  · exact h'
  · simp [World.shape?, Array.getElem?_eq_none h'] at h
/-- The variables that are read lie as told, and are nobody's own. -/
def TabC (w : World) : Prop := ∀ p ∈ tabs, ∃ x y, w.heap[p.1]? = some (.cells p.2.toArray x y)
def TabR (μ : Mu) (H : Heap) (w : World) : Prop := TabC w ∧ ∀ p ∈ tabs, ¬ Owned μ H p.1
theorem TabC.lt {w : World} (h : TabC w) {p : Nat × List Value} (hp : p ∈ tabs) : p.1 < w.heap.size := by
  obtain ⟨x, y, h⟩ := h p hp
  exact (Array.getElem?_eq_some_iff.1 h).1
theorem TabR.step {P : Program} {μ μ' : Mu} {H H' : Heap} {w w' : World} (h : TabR μ H w) (hs : Stp P μ H w μ' H' w') : TabR μ' H' w' :=
  ⟨fun p hp => by
    rw [hs.keep p.1 (h.1.lt hp) (h.2 p hp)]
    exact h.1 p hp, fun p hp ho => h.2 p hp (hs.own p.1 ho (h.1.lt hp))⟩
theorem TabC.none_ {w : World} (h : TabC w) {μ : Mu} {n : Nat} : TabR μ (List.replicate n none) w :=
  ⟨h, fun p _ ⟨id, L, b, _, hb, _⟩ => by rw [List.getElem?_replicate] at hb; split at hb <;> simp at hb⟩
end Go.Ab
