/- Memory under the relation: what is read, what is new, what is written, what append leaves. -/
import Derived.Test.YtdojljjiekgapaaGreatDoorAbRel
import Derived.Deep.AppendSrc
set_option linter.unusedVariables false
set_option linter.unusedSimpArgs false
namespace Go.Ab
variable {P : Program} {μ : Mu} {H : Heap} {w : World}

/-- Cells, one behind the other, of rows. -/
structure Flat (μ : Mu) (sz : Nat) (rows : List (List Lf)) (cs : List Value) : Prop where
  len : cs.length = rows.length * sz
  row : ∀ (r : Nat) (row : List Lf), rows[r]? = some row → row.length = sz
  cell : ∀ (r : Nat) (row : List Lf), rows[r]? = some row → ∀ (k : Nat) (l : Lf), row[k]? = some l → ∃ v, cs[r * sz + k]? = some v ∧ LRel μ l v
theorem Flat.nil (μ : Mu) (sz : Nat) : Flat μ sz [] [] := ⟨by simp, by simp, by simp⟩
theorem Flat.one_row {sz : Nat} {row : List Lf} {cs : List Value} (h : All2 (LRel μ) row cs) (hs : row.length = sz) : Flat μ sz [row] cs where
  len := by rw [← h.len, hs]; simp
  row := fun r x hx => by
    cases r with
    | zero => simp at hx; subst hx; exact hs
    | succ r => simp at hx
  cell := fun r x hx k l hl => by
    cases r with
    | zero => simp at hx; subst hx; obtain ⟨v, hv, hr⟩ := h.get hl; exact ⟨v, by simpa using hv, hr⟩
    | succ r => simp at hx
theorem Flat.append {sz : Nat} {r1 r2 : List (List Lf)} {c1 c2 : List Value} (h1 : Flat μ sz r1 c1) (h2 : Flat μ sz r2 c2) : Flat μ sz (r1 ++ r2) (c1 ++ c2) where
  len := by simp [h1.len, h2.len, Nat.add_mul]
  row := fun r x hx => by
    rcases Nat.lt_or_ge r r1.length with hl | hl
    · rw [List.getElem?_append_left hl] at hx; exact h1.row r x hx
    · rw [List.getElem?_append_right hl] at hx; exact h2.row _ x hx
  cell := fun r x hx k l hl => by
    rcases Nat.lt_or_ge r r1.length with hl' | hl'
    · rw [List.getElem?_append_left hl'] at hx
      obtain ⟨v, hv, hr⟩ := h1.cell r x hx k l hl
      exact ⟨v, by rw [List.getElem?_append_left (List.getElem?_eq_some_iff.1 hv).1]; exact hv, hr⟩
    · rw [List.getElem?_append_right hl'] at hx
      obtain ⟨v, hv, hr⟩ := h2.cell _ x hx k l hl
      have e : r * sz = r1.length * sz + (r - r1.length) * sz := by rw [← Nat.add_mul]; congr 1; omega
      refine ⟨v, ?_, hr⟩
      rw [List.getElem?_append_right (by rw [h1.len]; omega), h1.len, ← hv]
      congr 1
      omega
theorem Flat.ext {μ' : Mu} (he : Ext μ μ') {sz : Nat} {rows : List (List Lf)} {cs : List Value} (h : Flat μ sz rows cs) : Flat μ' sz rows cs :=
  ⟨h.len, h.row, fun r x hx k l hl => let ⟨v, hv, hr⟩ := h.cell r x hx k l hl; ⟨v, hv, hr.ext he⟩⟩
theorem Flat.replicate {sz : Nat} {row : List Lf} {cs : List Value} (h : All2 (LRel μ) row cs) (hs : row.length = sz) : ∀ n, Flat μ sz (List.replicate n row) (List.replicate n cs).flatten
  | 0 => by simpa using Flat.nil μ sz
  | n + 1 => by
    have := (Flat.one_row h hs).append (Flat.replicate h hs n)
    rw [List.replicate_succ, List.replicate_succ, List.flatten_cons]
    exact this
theorem Flat.one {sz : Nat} {rows : List (List Lf)} {cs : List Value} (h : Flat μ sz rows cs) : ∀ v ∈ cs, v.oneCell' = true := by
  intro v hv
  obtain ⟨j, hj⟩ := List.mem_iff_getElem?.1 hv
  have hlt : j < rows.length * sz := by rw [← h.len]; exact (List.getElem?_eq_some_iff.1 hj).1
  have hsz : 0 < sz := by
    rcases Nat.eq_zero_or_pos sz with h0 | h0
    · subst h0; simp at hlt
    · exact h0
  have hr : j / sz < rows.length := Nat.div_lt_of_lt_mul (by rw [Nat.mul_comm]; exact hlt)
  have hrow := List.getElem?_eq_getElem hr
  have hk : j % sz < (rows[j / sz]).length := by rw [h.row _ _ hrow]; exact Nat.mod_lt _ hsz
  obtain ⟨u, hu, hrel⟩ := h.cell _ _ hrow _ _ (List.getElem?_eq_getElem hk)
  rw [show j / sz * sz + j % sz = j by rw [Nat.mul_comm]; exact Nat.div_add_mod j sz, hj] at hu
  injection hu with hu
  subst hu
  exact hrel.one

/-- n cells of a row, from k on. -/
theorem BlkRel.cells_at {L : Loc} {b : Blk} (h : BlkRel P μ L b w) {r : Nat} {row : List Lf} (hr : b.rows[r]? = some row) (k n : Nat) (hk : k + n ≤ row.length) :
    ∃ cs : List Value, All2 (LRel μ) ((row.drop k).take n) cs ∧ w.rangeAt L.b (L.o + r * L.sz + k) cs := by
  refine ⟨(List.range n).map fun j => (w.cell? ⟨L.b, L.o + r * L.sz + k + j, none⟩).getD undef, ⟨by simp; omega, ?_⟩, ?_⟩
  · intro i a c ha hc
    rw [List.getElem?_take] at ha
    split at ha
    · rename_i hi
      rw [List.getElem?_drop] at ha
      obtain ⟨v, hv, hrel⟩ := h.cell r row hr _ a ha
      simp [hi] at hc
      subst hc
      rw [show L.o + r * L.sz + k + i = L.o + r * L.sz + (k + i) by omega, hv]
      exact hrel
    · simp at ha
  · intro j v hv
    by_cases hj : j < n
    · simp [hj] at hv
      have hl : k + j < row.length := by omega
      obtain ⟨u, hu, _⟩ := h.cell r row hr (k + j) _ (List.getElem?_eq_getElem hl)
      rw [show L.o + r * L.sz + k + j = L.o + r * L.sz + (k + j) by omega] at hv ⊢
      rw [hu] at hv ⊢
      simpa using hv
    · simp [hj] at hv
/-- n rows, from r on. -/
theorem BlkRel.flat {L : Loc} {b : Blk} (h : BlkRel P μ L b w) (r n : Nat) (hn : r + n ≤ b.rows.length) :
    ∃ cs : List Value, Flat μ L.sz ((b.rows.drop r).take n) cs ∧ w.rangeAt L.b (L.o + r * L.sz) cs := by
  induction n generalizing r with
  | zero => exact ⟨[], by simpa using Flat.nil μ L.sz, by intro j v hv; simp at hv⟩
  | succ n ih =>
    have hr : r < b.rows.length := by omega
    have hrow := List.getElem?_eq_getElem hr
    obtain ⟨c1, ha, hc1⟩ := h.cells_at hrow 0 (b.rows[r]).length (by omega)
    obtain ⟨c2, hf, hc2⟩ := ih (r + 1) (by omega)
    have hsz := h.row r _ hrow
    rw [List.drop_zero, List.take_length] at ha
    refine ⟨c1 ++ c2, ?_, ?_⟩
    · have e : (b.rows.drop r).take (n + 1) = [b.rows[r]] ++ (b.rows.drop (r + 1)).take n := by
        rw [List.drop_eq_getElem_cons hr]; rfl
      rw [e]
      exact (Flat.one_row ha hsz).append hf
    · intro j v hv
      have hl : c1.length = L.sz := by rw [← ha.len, hsz]
      rcases Nat.lt_or_ge j c1.length with hj | hj
      · rw [List.getElem?_append_left hj] at hv
        simpa using hc1 j v hv
      · rw [List.getElem?_append_right hj] at hv
        have := hc2 _ v hv
        rw [← this]
        congr 2
        rw [Nat.add_mul, hl]
        omega

/-! ### New blocks -/
def upd (μ : Mu) (n : Nat) (L : Loc) : Mu := fun id => if id = n then some L else μ id
theorem upd_same (μ : Mu) (n : Nat) (L : Loc) : upd μ n L n = some L := by simp [upd]
theorem upd_ext (hd : ∀ id L, μ id = some L → id < H.length) (L : Loc) : Ext μ (upd μ H.length L) := fun id L' h => by
  have := hd id L' h
  simp [upd, show id ≠ H.length by omega, h]
/-- Grown: the world is the old one, with blocks behind it. -/
structure Grow (w w' : World) : Prop where
  size : w.heap.size ≤ w'.heap.size
  keep : ∀ b, b < w.heap.size → w'.heap[b]? = w.heap[b]?
  os : w'.os = w.os
  tape : w'.tape = w.tape
  output : w'.output = w.output
theorem Grow.refl (w : World) : Grow w w := ⟨Nat.le_refl _, fun _ _ => rfl, rfl, rfl, rfl⟩
theorem Grow.alloc (w : World) (o : Obj) : Grow w (w.alloc o) := ⟨by simp, fun b hb => heap_alloc_old w o b hb, rfl, rfl, rfl⟩
theorem Grow.drew_alloc (w : World) (o : Obj) : Grow w (w.drew.alloc o) := ⟨by simp, fun b hb => heap_alloc_old w.drew o b hb, rfl, rfl, rfl⟩
theorem BlkRel.norow {L : Loc} {b : Blk} (h : BlkRel P μ L b w) (hz : L.md = .z) (r : Nat) : b.rows[r]? = none := by
  have := h.rows; rw [h.z hz] at this; rw [List.eq_nil_of_length_eq_zero this]; rfl
/-- What no block is needed for is told of any world. -/
theorem BlkRel.of_z {μ' : Mu} {L : Loc} {b : Blk} {w' : World} (h : BlkRel P μ L b w) (hz : L.md = .z) : BlkRel P μ' L b w' :=
  ⟨h.elem, h.md, h.rows, h.sz, h.row, fun r row hr => by (rw [h.norow hz] at hr; cases hr), h.z, fun h' => absurd hz h', (fun h' => by rw [hz] at h'; cases h'), h.whl⟩
theorem BlkRel.grow {μ' : Mu} (he : Ext μ μ') {L : Loc} {b : Blk} {w' : World} (h : BlkRel P μ L b w) (hg : Grow w w') : BlkRel P μ' L b w' := by
  by_cases hz : L.md = .z
  · exact h.of_z hz
  · exact h.of_block he (hg.keep _ (h.lt hz))
theorem Rel.grow {w' : World} (h : Rel P μ H w) (hg : Grow w w') : Rel P μ H w' :=
  ⟨h.dom, fun id L b hl hb => (h.blk id L b hl hb).grow (Ext.refl _) hg, h.inj⟩
theorem Stp.grow {w' : World} (h : Rel P μ H w) (hg : Grow w w') : Stp P μ H w μ H w' :=
  ⟨Ext.refl _, fun _ _ h => .inl h, h.grow hg, Nat.le_refl _, hg.size, fun b hb _ => hg.keep b hb, fun _ h _ => h, (fun id L h1 h2 => by rw [h1] at h2; cases h2), fun _ _ _ => rfl, (fun _ _ b _ h => ⟨b, h⟩), hg.os, hg.tape, hg.output⟩
theorem getElem?_newBlk_old {b : Blk} {id : Nat} (h : id < H.length) : (newBlk H b)[id]? = H[id]? := List.getElem?_append_left h
theorem getElem?_newBlk_new (b : Blk) : (newBlk H b)[H.length]? = some (some b) := by simp [newBlk]
theorem length_newBlk (b : Blk) : (newBlk H b).length = H.length + 1 := by simp [newBlk]
/-- A new block behind all: what lies in it is rows. -/
theorem Stp.fresh (hR : Rel P μ H w) (w1 : World) (h1 : w1 = w ∨ w1 = w.drew) (arr : Array Value) (e : Nat) (rows : List (List Lf)) (cs rest : List Value)
    (hf : Flat μ (P.cellsOf e) rows cs) (harr : arr.toList = cs ++ rest) (hwh : noW e = false → arr.size = P.cellsOf e) :
    Stp P μ H w (upd μ H.length ⟨w.heap.size, 0, P.cellsOf e, rows.length, .wr, e, arr.size⟩) (newBlk H ⟨e, .wr, rows⟩) (w1.alloc (.cells arr e)) := by
  have hsz1 : w1.heap.size = w.heap.size := by rcases h1 with rfl | rfl <;> simp
  have hg : Grow w (w1.alloc (.cells arr e)) := by
    rcases h1 with rfl | rfl
    · exact Grow.alloc _ _
    · exact Grow.drew_alloc _ _
  have he : Ext μ (upd μ H.length ⟨w.heap.size, 0, P.cellsOf e, rows.length, .wr, e, arr.size⟩) := upd_ext hR.dom _
  have hasz : cs.length ≤ arr.size := by
    have : arr.toList.length = arr.size := Array.length_toList
    rw [harr] at this
    simp at this
    omega
  have hnew : BlkRel P (upd μ H.length ⟨w.heap.size, 0, P.cellsOf e, rows.length, .wr, e, arr.size⟩) ⟨w.heap.size, 0, P.cellsOf e, rows.length, .wr, e, arr.size⟩ ⟨e, .wr, rows⟩ (w1.alloc (.cells arr e)) := by
    refine ⟨rfl, rfl, rfl, rfl, hf.row, ?_, (fun h => by cases h), (fun _ => by simp [hsz1]), ?_, fun _ h => ⟨rfl, hwh h⟩⟩
    · intro r row hr k l hl
      obtain ⟨v, hv, hrel⟩ := hf.cell r row hr k l hl
      refine ⟨v, ?_, hrel.ext he⟩
      have := World.cell?_alloc_new w1 arr e (0 + r * P.cellsOf e + k)
      rw [hsz1] at this
      rw [this, ← Array.getElem?_toList, harr, List.getElem?_append_left]
      · simpa using hv
      · have := (List.getElem?_eq_some_iff.1 hv).1; simpa using this
    · intro _
      refine ⟨?_, ?_, ?_⟩
      · unfold World.shape?; rw [← hsz1, heap_alloc_new]
      · intro o; rw [← hsz1]; exact World.frozen?_alloc_new w1 arr e o
      · have := hf.len; simp only [Nat.zero_add]; omega
  have hnl : ∀ (id : Nat) (L : Loc) (b : Blk), upd μ H.length ⟨w.heap.size, 0, P.cellsOf e, rows.length, .wr, e, arr.size⟩ id = some L → (newBlk H ⟨e, .wr, rows⟩)[id]? = some (some b) →
      (id = H.length ∧ L = ⟨w.heap.size, 0, P.cellsOf e, rows.length, .wr, e, arr.size⟩ ∧ b = ⟨e, .wr, rows⟩) ∨ (id < H.length ∧ μ id = some L ∧ H[id]? = some (some b)) := by
    intro id L b hl hb
    by_cases hid : id = H.length
    · subst hid
      rw [upd_same] at hl
      rw [getElem?_newBlk_new] at hb
      injection hl with hl
      injection hb with hb
      injection hb with hb
      exact .inl ⟨rfl, hl.symm, hb.symm⟩
    · simp [upd, hid] at hl
      have hlt := hR.dom id L hl
      rw [getElem?_newBlk_old hlt] at hb
      exact .inr ⟨hlt, hl, hb⟩
  refine ⟨he, ?_, ⟨?_, ?_, ?_⟩, by simp [newBlk], hg.size, fun b hb _ => hg.keep b hb, ?_, ?_, (fun id hid _ => getElem?_newBlk_old hid), (fun id L b hl hb => ⟨b, by rw [← getElem?_newBlk_old (hR.dom id L hl)]; exact hb⟩), hg.os, hg.tape, hg.output⟩
  · intro id L hl
    by_cases hid : id = H.length
    · exact .inr (by omega)
    · simp [upd, hid] at hl; exact .inl hl
  · intro id L hl
    rw [length_newBlk]
    by_cases hid : id = H.length
    · omega
    · simp [upd, hid] at hl; have := hR.dom id L hl; omega
  · intro id L b hl hb
    rcases hnl id L b hl hb with ⟨rfl, rfl, rfl⟩ | ⟨hlt, hl', hb'⟩
    · exact hnew
    · exact (hR.blk id L b hl' hb').grow he hg
  · intro i1 L1 b1 i2 L2 b2 hne hl1 hb1 hl2 hb2 hw1 hz2
    rcases hnl i1 L1 b1 hl1 hb1 with ⟨rfl, rfl, rfl⟩ | ⟨hlt1, hl1', hb1'⟩
    · rcases hnl i2 L2 b2 hl2 hb2 with ⟨rfl, rfl, rfl⟩ | ⟨hlt2, hl2', hb2'⟩
      · exact absurd rfl hne
      · have := (hR.blk i2 L2 b2 hl2' hb2').lt hz2
        show w.heap.size ≠ L2.b
        omega
    · rcases hnl i2 L2 b2 hl2 hb2 with ⟨rfl, rfl, rfl⟩ | ⟨hlt2, hl2', hb2'⟩
      · have := shape_lt ((hR.blk i1 L1 b1 hl1' hb1').own hw1).1
        show L1.b ≠ w.heap.size
        omega
      · exact hR.inj i1 L1 b1 i2 L2 b2 hne hl1' hb1' hl2' hb2' hw1 hz2
  · rintro b ⟨id, L, blk, hl, hb, hw, rfl⟩ hlt
    rcases hnl id L blk hl hb with ⟨rfl, rfl, rfl⟩ | ⟨hlt1, hl1', hb1'⟩
    · simp at hlt
    · exact ⟨id, L, blk, hl1', hb1', hw, rfl⟩
  · intro id L hl hn _
    by_cases hid : id = H.length
    · subst hid
      rw [upd_same] at hl
      injection hl with hl
      subst hl
      exact .inl (Nat.le_refl _)
    · simp [upd, hid] at hl; rw [hl] at hn; cases hn
/-- An own block is forgotten. -/
theorem Stp.kill (hR : Rel P μ H w) (id : Nat) {L0 : Loc} (hL0 : μ id = some L0) : Stp P μ H w μ (H.set id none) w := by
  have key : ∀ (i : Nat) (b : Blk), (H.set id none)[i]? = some (some b) → H[i]? = some (some b) := by
    intro i b hb
    rw [List.getElem?_set] at hb
    split at hb
    · split at hb <;> simp at hb
    · exact hb
  exact ⟨Ext.refl _, fun _ _ h => .inl h, ⟨fun i L hl => by simpa using hR.dom i L hl, fun i L b hl hb => hR.blk i L b hl (key i b hb),
    fun i1 L1 b1 i2 L2 b2 hne h1 hb1 h2 hb2 => hR.inj i1 L1 b1 i2 L2 b2 hne h1 (key _ _ hb1) h2 (key _ _ hb2)⟩, by simp, Nat.le_refl _, fun _ _ _ => rfl,
    fun b ⟨i, L, blk, hl, hb, hw, he⟩ _ => ⟨i, L, blk, hl, key i blk hb, hw, he⟩, (fun i L h1 h2 => by rw [h1] at h2; cases h2),
    (fun i hi hn => by rw [List.getElem?_set_ne (fun h => by subst h; rw [hL0] at hn; cases hn)]), (fun i L b _ h => ⟨b, key i b h⟩), rfl, rfl, rfl⟩

/-! ### What is written -/
theorem heap_setCell_ne (w : World) (a : Addr) (v : Value) (x : Nat) (h : x ≠ a.block) : (w.setCell a v).heap[x]? = w.heap[x]? := by
  simp [World.setCell, Array.getElem?_modify, Ne.symm h]
theorem heap_setCells_ne (b : Nat) : ∀ (vs : List Value) (o : Nat) (w : World) (x : Nat), x ≠ b → (w.setCells b o vs).heap[x]? = w.heap[x]?
  | [], _, _, _, _ => rfl
  | v :: r, o, w, x, h => by rw [World.setCells, heap_setCells_ne b r _ _ x h, heap_setCell_ne _ _ _ _ h]
theorem size_setCells (b : Nat) : ∀ (vs : List Value) (o : Nat) (w : World), (w.setCells b o vs).heap.size = w.heap.size
  | [], _, _ => rfl
  | v :: r, o, w => by rw [World.setCells, size_setCells b r, World.size_setCell]
theorem shape_setCell (w : World) (a : Addr) (v : Value) (x : Nat) : (w.setCell a v).shape? x = w.shape? x := by
  unfold World.shape? World.setCell
  by_cases h : a.block = x
  · subst h
    rw [Array.getElem?_modify]
    simp only [if_true]
    cases hb : w.heap[a.block]? with
    | none => rfl
    | some o => cases o <;> simp <;> split <;> simp
  · rw [Array.getElem?_modify]; simp [h]
theorem shape_setCells (b : Nat) : ∀ (vs : List Value) (o : Nat) (w : World) (x : Nat), (w.setCells b o vs).shape? x = w.shape? x
  | [], _, _, _ => rfl
  | v :: r, o, w, x => by rw [World.setCells, shape_setCells b r, shape_setCell]
theorem os_setCells (b : Nat) : ∀ (vs : List Value) (o : Nat) (w : World), (w.setCells b o vs).os = w.os ∧ (w.setCells b o vs).tape = w.tape ∧ (w.setCells b o vs).output = w.output
  | [], _, _ => ⟨rfl, rfl, rfl⟩
  | v :: r, o, w => by rw [World.setCells]; exact os_setCells b r (o + 1) _
theorem cell_of_shape {w : World} {b e n : Nat} (h : w.shape? b = some (e, n)) (o : Nat) (ho : o < n) : (w.cell? ⟨b, o, none⟩).isSome = true := by
  unfold World.shape? at h
  unfold World.cell?
  cases hb : w.heap[b]? with
  | none => simp [hb] at h
  | some x =>
    cases x with
    | cells c t f => simp [hb] at h; obtain ⟨_, rfl⟩ := h; simp [ho]
    | _ => simp [hb] at h
/-- An own block's content is put anew. -/
theorem Stp.put (hR : Rel P μ H w) {id : Nat} {L : Loc} {b : Blk} (hl : μ id = some L) (hb : H[id]? = some (some b)) (hw : L.md = .wr) (b' : Blk) (w' : World)
    (hheap : ∀ x, x ≠ L.b → w'.heap[x]? = w.heap[x]?) (hsize : w'.heap.size = w.heap.size) (hos : w'.os = w.os ∧ w'.tape = w.tape ∧ w'.output = w.output) (hB : BlkRel P μ L b' w') :
    Stp P μ H w μ (H.set id (some b')) w' := by
  have hlt := hR.dom id L hl
  have key : ∀ (i : Nat) (L' : Loc) (x : Blk), μ i = some L' → (H.set id (some b'))[i]? = some (some x) → (i = id ∧ L' = L ∧ x = b') ∨ (i ≠ id ∧ H[i]? = some (some x)) := by
    intro i L' x hl' hx
    rw [List.getElem?_set] at hx
    by_cases hi : id = i
    · subst hi
      simp [hlt] at hx
      rw [hl] at hl'
      injection hl' with hl'
      exact .inl ⟨rfl, hl'.symm, hx.symm⟩
    · simp [hi] at hx
      exact .inr ⟨fun h => hi h.symm, hx⟩
  refine ⟨Ext.refl _, fun _ _ h => .inl h, ⟨fun i L' h => by simpa using hR.dom i L' h, ?_, ?_⟩, by simp, by omega, ?_, ?_, (fun i L h1 h2 => by rw [h1] at h2; cases h2), (fun i hi hn => List.getElem?_set_ne (fun h => by subst h; rw [hl] at hn; cases hn)),
    (fun i L' x hl' hx => by rcases key i L' x hl' hx with ⟨rfl, _, _⟩ | ⟨_, h⟩ <;> first | exact ⟨_, hb⟩ | exact ⟨_, h⟩), hos.1, hos.2.1, hos.2.2⟩
  · intro i L' x hl' hx
    rcases key i L' x hl' hx with ⟨rfl, rfl, rfl⟩ | ⟨hne, hx'⟩
    · exact hB
    · have hx2 := hR.blk i L' x hl' hx'
      by_cases hz : L'.md = .z
      · exact hx2.of_z hz
      · exact hx2.of_block (Ext.refl _) (hheap _ (Ne.symm (hR.inj id L b i L' x (Ne.symm hne) hl hb hl' hx' hw hz)))
  · intro i1 L1 b1 i2 L2 b2 hne h1 hb1 h2 hb2 hw1 hz2
    have g1 : ∃ c1, H[i1]? = some (some c1) := by
      rcases key i1 L1 b1 h1 hb1 with ⟨rfl, rfl, rfl⟩ | ⟨_, h⟩
      · exact ⟨b, hb⟩
      · exact ⟨_, h⟩
    have g2 : ∃ c2, H[i2]? = some (some c2) := by
      rcases key i2 L2 b2 h2 hb2 with ⟨rfl, rfl, rfl⟩ | ⟨_, h⟩
      · exact ⟨b, hb⟩
      · exact ⟨_, h⟩
    obtain ⟨c1, g1⟩ := g1
    obtain ⟨c2, g2⟩ := g2
    exact hR.inj i1 L1 c1 i2 L2 c2 hne h1 g1 h2 g2 hw1 hz2
  · intro x hx ho
    exact hheap x fun h => ho ⟨id, L, b, hl, hb, hw, h.symm⟩
  · rintro x ⟨i, L', blk, hl', hx, hw', rfl⟩ _
    rcases key i L' blk hl' hx with ⟨rfl, rfl, rfl⟩ | ⟨_, h⟩
    · exact ⟨i, L', b, hl', hb, hw, rfl⟩
    · exact ⟨i, L', blk, hl', h, hw', rfl⟩
/-- An own block goes on under another name: the elder one is forgotten. -/
theorem Stp.regrow (hR : Rel P μ H w) {id : Nat} {L : Loc} {b : Blk} (hl : μ id = some L) (hb : H[id]? = some (some b)) (hw : L.md = .wr) (b' : Blk) (L' : Loc) (w' : World) (hLb : L'.b = L.b) (hmd : L'.md = .wr)
    (hheap : ∀ x, x ≠ L.b → w'.heap[x]? = w.heap[x]?) (hsize : w'.heap.size = w.heap.size) (hos : w'.os = w.os ∧ w'.tape = w.tape ∧ w'.output = w.output) (hB : BlkRel P (upd μ H.length L') L' b' w') :
    Stp P μ H w (upd μ H.length L') (newBlk (H.set id none) b') w' := by
  have hlen : (H.set id none).length = H.length := by simp
  have he : Ext μ (upd μ H.length L') := upd_ext hR.dom _
  have key : ∀ (i : Nat) (M : Loc) (x : Blk), upd μ H.length L' i = some M → (newBlk (H.set id none) b')[i]? = some (some x) → (i = H.length ∧ M = L' ∧ x = b') ∨ (i ≠ H.length ∧ i ≠ id ∧ μ i = some M ∧ H[i]? = some (some x)) := by
    intro i M x hM hx
    by_cases hi : i = H.length
    · subst hi
      rw [upd_same] at hM
      have := getElem?_newBlk_new (H := H.set id none) b'
      rw [hlen] at this
      rw [this] at hx
      injection hM with hM
      injection hx with hx
      injection hx with hx
      exact .inl ⟨rfl, hM.symm, hx.symm⟩
    · simp [upd, hi] at hM
      have hlt := hR.dom i M hM
      rw [getElem?_newBlk_old (by rw [hlen]; exact hlt), List.getElem?_set] at hx
      by_cases hid : id = i
      · subst hid; simp [hlt] at hx
      · simp [hid] at hx; exact .inr ⟨hi, fun h => hid h.symm, hM, hx⟩
  refine ⟨he, ?_, ⟨?_, ?_, ?_⟩, by simp [newBlk], by omega, ?_, ?_, ?_, (fun i hi hn => by rw [getElem?_newBlk_old (by rw [hlen]; exact hi), List.getElem?_set_ne (fun h => by subst h; rw [hl] at hn; cases hn)]),
    (fun i M x hM hx => by rcases key i M x (he i M hM) hx with ⟨rfl, _, _⟩ | ⟨_, _, _, h⟩ <;> first | exact ⟨_, h⟩ | exact absurd (hR.dom _ _ hM) (by omega)), hos.1, hos.2.1, hos.2.2⟩
  · intro i M hM
    by_cases hi : i = H.length
    · exact .inr (by omega)
    · simp [upd, hi] at hM; exact .inl hM
  · intro i M hM
    rw [length_newBlk, hlen]
    by_cases hi : i = H.length
    · omega
    · simp [upd, hi] at hM; have := hR.dom i M hM; omega
  · intro i M x hM hx
    rcases key i M x hM hx with ⟨rfl, rfl, rfl⟩ | ⟨hi, hid, hM', hx'⟩
    · exact hB
    · have hx2 := hR.blk i M x hM' hx'
      by_cases hz : M.md = .z
      · exact hx2.of_z hz
      · exact hx2.of_block he (hheap _ (Ne.symm (hR.inj id L b i M x (Ne.symm hid) hl hb hM' hx' hw hz)))
  · intro i1 L1 b1 i2 L2 b2 hne h1 hb1 h2 hb2 hw1 hz2
    rcases key i1 L1 b1 h1 hb1 with ⟨rfl, rfl, rfl⟩ | ⟨hi1, hid1, h1', hb1'⟩
    · rcases key i2 L2 b2 h2 hb2 with ⟨rfl, rfl, rfl⟩ | ⟨hi2, hid2, h2', hb2'⟩
      · exact absurd rfl hne
      · rw [hLb]; exact hR.inj id L b i2 L2 b2 (Ne.symm hid2) hl hb h2' hb2' hw hz2
    · rcases key i2 L2 b2 h2 hb2 with ⟨rfl, rfl, rfl⟩ | ⟨hi2, hid2, h2', hb2'⟩
      · rw [hLb]; exact hR.inj i1 L1 b1 id L b hid1 h1' hb1' hl hb hw1 (by rw [hw]; simp)
      · exact hR.inj i1 L1 b1 i2 L2 b2 hne h1' hb1' h2' hb2' hw1 hz2
  · intro x hx ho
    exact hheap x fun h => ho ⟨id, L, b, hl, hb, hw, h.symm⟩
  · rintro x ⟨i, M, blk, hM, hx, hw', rfl⟩ _
    rcases key i M blk hM hx with ⟨rfl, rfl, rfl⟩ | ⟨_, _, hM', hx'⟩
    · exact ⟨id, L, b, hl, hb, hw, hLb.symm⟩
    · exact ⟨i, M, blk, hM', hx', hw', rfl⟩
  · intro i M hM hn _
    by_cases hi : i = H.length
    · subst hi
      rw [upd_same] at hM
      injection hM with hM
      subst hM
      exact .inr ⟨id, L, b, hl, hb, hw, hLb.symm⟩
    · simp [upd, hi] at hM; rw [hM] at hn; cases hn
/-- A block of no room. -/
theorem Stp.zblk (hR : Rel P μ H w) (e : Nat) : Stp P μ H w (upd μ H.length ⟨0, 0, P.cellsOf e, 0, .z, e, 0⟩) (newBlk H ⟨e, .z, []⟩) w := by
  have he : Ext μ (upd μ H.length ⟨0, 0, P.cellsOf e, 0, .z, e, 0⟩) := upd_ext hR.dom _
  have key : ∀ (i : Nat) (M : Loc) (x : Blk), upd μ H.length ⟨0, 0, P.cellsOf e, 0, .z, e, 0⟩ i = some M → (newBlk H ⟨e, .z, []⟩)[i]? = some (some x) → (M = ⟨0, 0, P.cellsOf e, 0, .z, e, 0⟩ ∧ x = ⟨e, .z, []⟩) ∨ (μ i = some M ∧ H[i]? = some (some x)) := by
    intro i M x hM hx
    by_cases hi : i = H.length
    · subst hi
      rw [upd_same] at hM
      rw [getElem?_newBlk_new] at hx
      injection hM with hM
      injection hx with hx
      injection hx with hx
      exact .inl ⟨hM.symm, hx.symm⟩
    · simp [upd, hi] at hM
      rw [getElem?_newBlk_old (hR.dom i M hM)] at hx
      exact .inr ⟨hM, hx⟩
  refine ⟨he, ?_, ⟨?_, ?_, ?_⟩, by simp [newBlk], Nat.le_refl _, fun _ _ _ => rfl, ?_, ?_, (fun id hid _ => getElem?_newBlk_old hid), (fun id L b hl hb => ⟨b, by rw [← getElem?_newBlk_old (hR.dom id L hl)]; exact hb⟩), rfl, rfl, rfl⟩
  · intro i M hM
    by_cases hi : i = H.length
    · exact .inr (by omega)
    · simp [upd, hi] at hM; exact .inl hM
  · intro i M hM
    rw [length_newBlk]
    by_cases hi : i = H.length
    · omega
    · simp [upd, hi] at hM; have := hR.dom i M hM; omega
  · intro i M x hM hx
    rcases key i M x hM hx with ⟨rfl, rfl⟩ | ⟨hM', hx'⟩
    · exact ⟨rfl, rfl, rfl, rfl, by simp, by simp, fun _ => rfl, fun h => absurd rfl h, (fun h => by cases h), (fun h => by cases h)⟩
    · exact (hR.blk i M x hM' hx').grow he (Grow.refl w)
  · intro i1 L1 b1 i2 L2 b2 hne h1 hb1 h2 hb2 hw1 hz2
    rcases key i1 L1 b1 h1 hb1 with ⟨rfl, rfl⟩ | ⟨h1', hb1'⟩
    · cases hw1
    · rcases key i2 L2 b2 h2 hb2 with ⟨rfl, rfl⟩ | ⟨h2', hb2'⟩
      · exact absurd rfl hz2
      · exact hR.inj i1 L1 b1 i2 L2 b2 hne h1' hb1' h2' hb2' hw1 hz2
  · rintro x ⟨i, M, blk, hM, hx, hw', rfl⟩ _
    rcases key i M blk hM hx with ⟨rfl, rfl⟩ | ⟨hM', hx'⟩
    · cases hw'
    · exact ⟨i, M, blk, hM', hx', hw', rfl⟩
  · intro i M hM hn hz
    by_cases hi : i = H.length
    · subst hi
      rw [upd_same] at hM
      injection hM with hM
      subst hM
      exact absurd rfl hz
    · simp [upd, hi] at hM; rw [hM] at hn; cases hn
/-- Cells put over a part of an own block: 'off' from the block's first row on. -/
theorem BlkRel.over {L : Loc} {b : Blk} (h : BlkRel P μ L b w) (hw : L.md = .wr) (off : Nat) (vs : List Value) (hfit : L.o + off + vs.length ≤ L.cells) (rows : List (List Lf)) (hn : rows.length = b.rows.length)
    (hrow : ∀ (r : Nat) (row : List Lf), rows[r]? = some row → row.length = L.sz)
    (hcell : ∀ (r : Nat) (row : List Lf), rows[r]? = some row → ∀ (k : Nat) (l : Lf), row[k]? = some l →
      (∃ v, off ≤ r * L.sz + k ∧ vs[r * L.sz + k - off]? = some v ∧ LRel μ l v) ∨ ((r * L.sz + k < off ∨ off + vs.length ≤ r * L.sz + k) ∧ ∃ row0, b.rows[r]? = some row0 ∧ row0[k]? = some l)) :
    BlkRel P μ L { b with rows := rows } (w.setCells L.b (L.o + off) vs) := by
  obtain ⟨hs, hf, hfit0⟩ := h.own hw
  have hin := World.cell?_setCells_in L.b vs (L.o + off) w (fun j hj => cell_of_shape hs _ (by omega))
  refine ⟨h.elem, h.md, by rw [hn]; exact h.rows, h.sz, hrow, ?_, h.z, (fun hz => by rw [size_setCells]; exact h.lt hz), fun _ => ⟨by rw [shape_setCells]; exact hs, fun o => by rw [World.frozen?_setCells]; exact hf o, hfit0⟩, h.whl⟩
  intro r row hr k l hk
  rcases hcell r row hr k l hk with ⟨v, hle, hv, hrel⟩ | ⟨hout, row0, hr0, hk0⟩
  · have hlt := (List.getElem?_eq_some_iff.1 hv).1
    refine ⟨v, ?_, hrel⟩
    have := hin _ hlt
    rw [show L.o + off + (r * L.sz + k - off) = L.o + r * L.sz + k by omega] at this
    rw [this, ← hv, List.getElem?_eq_getElem hlt]
  · obtain ⟨v, hv, hrel⟩ := h.cell r row0 hr0 k l hk0
    refine ⟨v, ?_, hrel⟩
    rw [World.cell?_setCells_out L.b vs (L.o + off) w _ (fun _ _ => by simp; omega)]
    exact hv
end Go.Ab
