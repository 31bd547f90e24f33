/- What an argument's cells are, taken apart type by type. -/
import Derived.Test.YtdojljjiekgapaaGreatDoorAbTab
set_option linter.unusedVariables false
set_option linter.unusedSimpArgs false
namespace Go.Ab
variable {P : Program} {H : Heap} {k t : Nat} {ls : List Lf}
def ShpFs (g : Nat → List Lf → Prop) : List Field → List Lf → Prop
  | [], ls => ls = []
  | f :: fs, ls => ∃ p r, ls = p ++ r ∧ g f.type p ∧ ShpFs g fs r
theorem ShpFs.of {g : Nat → List Lf → Prop} : ∀ (fs : List Field) (ps : List (List Lf)), ps.length = fs.length → (∀ (i : Nat) (f : Field) (p : List Lf), fs[i]? = some f → ps[i]? = some p → g f.type p) → ShpFs g fs ps.flatten
  | [], [], _, _ => rfl
  | f :: fs, p :: ps, hl, h => ⟨p, ps.flatten, by simp, h 0 f p rfl rfl, ShpFs.of fs ps (by simpa using hl) fun i f' p' hf hp => h (i + 1) f' p' (by simpa using hf) (by simpa using hp)⟩
  | [], _ :: _, hl, _ => by simp at hl
  | _ :: _, [], hl, _ => by simp at hl
theorem Shp.struct {fs : Array Field} (hu : P.underlying t = some (.struct fs)) (h : Shp P H (k + 1) t ls) : ShpFs (Shp P H k) fs.toList ls := by
  unfold Shp at h
  rw [hu] at h
  obtain ⟨ps, rfl, hl, hh⟩ := h
  exact ShpFs.of fs.toList ps (by simpa using hl) hh
def I64 (x : Int) : Prop := -9223372036854775808 ≤ x ∧ x ≤ 9223372036854775807
theorem Shp.int {q : IntKind} (hu : P.underlying t = some (.int q)) (h : Shp P H (k + 1) t ls) : ∃ x, ls = [.i q x] ∧ (Lit.int q x).wf = true := by
  unfold Shp at h
  rw [hu] at h
  exact h
theorem Shp.i64 (hu : P.underlying t = some (.int .i64)) (h : Shp P H (k + 1) t ls) : ∃ x, ls = [.i .i64 x] ∧ I64 x := by
  obtain ⟨x, h1, h2⟩ := h.int hu
  refine ⟨x, h1, ?_⟩
  simp only [Lit.wf, Bool.and_eq_true, decide_eq_true_eq] at h2
  exact h2
theorem Shp.bool (hu : P.underlying t = some .bool) (h : Shp P H (k + 1) t ls) : ∃ x, ls = [.b x] := by
  unfold Shp at h
  rw [hu] at h
  exact h
theorem Shp.string (hu : P.underlying t = some .string) (h : Shp P H (k + 1) t ls) : ∃ x, ls = [.s x] ∧ x.size ≤ maxLen := by
  unfold Shp at h
  rw [hu] at h
  exact h
theorem Shp.slice {e : Nat} (hu : P.underlying t = some (.slice e)) (h : Shp P H (k + 1) t ls) : ls = [.sl none 0] ∨ ∃ id b, ls = [.sl (some (id, 0)) b.rows.length] ∧ blkAt H id = some b ∧ b.elem = e ∧ b.rows.length ≤ maxLen ∧ ∀ row ∈ b.rows, Shp P H k e row := by
  unfold Shp at h
  rw [hu] at h
  rcases h with h | ⟨id, b, h1, h2, h3, h4, h5, h6⟩
  · exact .inl h
  · exact .inr ⟨id, b, h1, by simp [blkAt, h2], h3, h5, h6⟩
theorem rows_of {α : Type} {f : α → List Lf} {R : α → Prop} : ∀ {rows : List (List Lf)}, (∀ row ∈ rows, ∃ x, row = f x ∧ R x) → ∃ xs : List α, rows = xs.map f ∧ ∀ x ∈ xs, R x
  | [], _ => ⟨[], rfl, by simp⟩
  | row :: rows, h => by
    obtain ⟨x, hx, hr⟩ := h row (by simp)
    obtain ⟨xs, hxs, hrs⟩ := rows_of (rows := rows) fun r hr => h r (by simp [hr])
    exact ⟨x :: xs, by rw [hx, hxs]; rfl, fun y hy => by
      rcases List.mem_cons.1 hy with rfl | hy
      · exact hr
      · exact hrs y hy⟩
/-- What a slice holds: where it begins, of what elements. -/
def Sl (H : Heap) (e : Nat) (a : Option (Nat × Nat)) (rows : List (List Lf)) : Prop :=
  ∀ (i : Nat) (row : List Lf), rows[i]? = some row → ∃ id r b, a = some (id, r) ∧ blkAt H id = some b ∧ b.elem = e ∧ b.rows[r + i]? = some row
theorem Sl.app {e : Nat} {a : Option (Nat × Nat)} {rows : List (List Lf)} (h : Sl H e a rows) (G : Heap) : Sl (H ++ G) e a rows := fun i row hr => by
  obtain ⟨id, r, b, h1, h2, h3⟩ := h i row hr
  exact ⟨id, r, b, h1, blkAt_app h2 G, h3⟩
theorem Sl.nil (H : Heap) (e : Nat) (a : Option (Nat × Nat)) : Sl H e a [] := fun i row hr => by simp at hr
theorem Sl.new (H : Heap) (e : Nat) (md : Md) (rows : List (List Lf)) : Sl (H ++ [some ⟨e, md, rows⟩]) e (some (H.length, 0)) rows := fun i row hr =>
  ⟨H.length, 0, ⟨e, md, rows⟩, rfl, by simp, rfl, by simpa using hr⟩
theorem Sl.of {e id : Nat} {rows : List (List Lf)} (h : (blkAt H id).map (fun b => (b.elem, b.rows)) = some (e, rows)) : Sl H e (some (id, 0)) rows := fun i row hr => by
  cases hb : blkAt H id with
  | none => rw [hb] at h; simp at h
  | some b =>
    rw [hb] at h
    simp at h
    exact ⟨id, 0, b, rfl, hb, h.1, by rw [h.2, Nat.zero_add]; exact hr⟩
theorem Shp.sl {α : Type} {e : Nat} {f : α → List Lf} {R : α → Prop} (hu : P.underlying t = some (.slice e)) (h : Shp P H (k + 1) t ls) (hr : ∀ row, Shp P H k e row → ∃ x, row = f x ∧ R x) :
    ∃ (xs : List α) (a : Option (Nat × Nat)), ls = [.sl a xs.length] ∧ Sl H e a (xs.map f) ∧ xs.length ≤ maxLen ∧ ∀ x ∈ xs, R x := by
  rcases h.slice hu with rfl | ⟨id, b, rfl, hb, he, hm, hrows⟩
  · exact ⟨[], none, rfl, Sl.nil _ _ _, by simp, by simp⟩
  · obtain ⟨xs, hxs, hR⟩ := rows_of fun row hrow => hr row (hrows row hrow)
    have hl : b.rows.length = xs.length := by rw [hxs]; simp
    refine ⟨xs, some (id, 0), by rw [hl], fun i row hi => ⟨id, 0, b, rfl, hb, he, by rw [hxs, Nat.zero_add]; exact hi⟩, by omega, hR⟩
theorem wrap64 {n : Int} (h1 : -9223372036854775808 ≤ n) (h2 : n ≤ 9223372036854775807) : IntKind.i64.wrap n = n := by
  simp [IntKind.wrap, IntKind.bits, IntKind.signed]
  omega
/-- A row of what is made already, then what is not. -/
def fillR {α : Type} (ys : List α) (z : α) (i j : Nat) : List α := ys.take i ++ List.replicate j z
theorem fillR_zero {α : Type} (ys : List α) (z : α) {n : Nat} (h : n = ys.length) : fillR ys z 0 n = List.replicate n z := by simp [fillR]
theorem fillR_get {α : Type} {ys : List α} {z : α} {i j : Nat} (h : i + (j + 1) = ys.length) : (fillR ys z i (j + 1))[i]? = some z := by
  unfold fillR
  rw [List.getElem?_append_right (by simp; omega)]
  simp only [List.length_take]
  rw [show i - min i ys.length = 0 by omega]
  simp [List.replicate_succ]
theorem fillR_len {α : Type} {ys : List α} {z : α} {i j : Nat} (h : i + j = ys.length) : (fillR ys z i j).length = ys.length := by
  simp [fillR]; omega
theorem fillR_set {α : Type} {ys : List α} {z y : α} {i j : Nat} (h : i + (j + 1) = ys.length) (hy : ys[i]? = some y) : (fillR ys z i (j + 1)).set i y = fillR ys z (i + 1) j := by
  have hl : (ys.take i).length = i := by simp; omega
  unfold fillR
  rw [List.set_append, if_neg (by omega), hl, Nat.sub_self, List.replicate_succ, List.set_cons_zero, List.take_add_one, hy]
  simp
theorem fillR_done {α : Type} {ys : List α} {z : α} {i : Nat} (h : i = ys.length) : fillR ys z i 0 = ys := by simp [fillR, h]
theorem argV_struct {fs : Array Field} (hu : P.underlying t = some (.struct fs)) : argV P t ls = .w (.agg ls) := by simp [argV, hu]
theorem argV_int {q : IntKind} {l : Lf} (hu : P.underlying t = some (.int q)) : argV P t [l] = .w (.lf l) := by simp [argV, hu]
theorem argV_bool {l : Lf} (hu : P.underlying t = some .bool) : argV P t [l] = .w (.lf l) := by simp [argV, hu]
theorem argV_slice {e : Nat} {l : Lf} (hu : P.underlying t = some (.slice e)) : argV P t [l] = .w (.lf l) := by simp [argV, hu]
@[simp] theorem len_assoc (H : Heap) (a b : Nat) : H.length + a + b = H.length + (a + b) := Nat.add_assoc _ _ _
@[simp] theorem guard_pre {E : Env} {draw : Bool} (f : Nat) (a b : List (Nat × Nat × Nat)) (v : V) (H A B : Heap) (h : A <+: B) : guardCall E draw (.w (.lf (.fn f a b))) (H ++ A) (some (v, H ++ B)) = some (v, H ++ B) := by
  obtain ⟨C, rfl⟩ := h
  rw [← List.append_assoc]
  exact guard_more f a b v C
end Go.Ab
