/- What an argument's cells are, taken apart type by type. -/
import Derived.Test.YtlkjnjaibdicjaaAbTab
set_option linter.unusedVariables false
set_option linter.unusedSimpArgs false
namespace Go.Ab
variable {P : Program} {H : Heap} {k t : Nat} {ls : List Lf}
def ShpFs (g : Nat → List Lf → Prop) : List Field → List Lf → Prop
  | [], ls => ls = []
  | f :: fs, ls => ∃ p r, ls = p ++ r ∧ g f.type p ∧ ShpFs g fs r
theorem ShpFs.of {g : Nat → List Lf → Prop} : ∀ (fs : List Field) (ps : List (List Lf)), ps.length = fs.length → (∀ (i : Nat) (f : Field) (p : List Lf), fs[i]? = some f → ps[i]? = some p → g f.type p) → ShpFs g fs ps.flatten
  | [], [], _, _ => rfl
  | f :: fs, p :: ps, hl, h => ⟨p, ps.flatten, by simp, h 0 f p rfl rfl, ShpFs.of fs ps (by simpa using hl) fun i f' p' hf hp => h (i + 1) f' p' (by simpa using hf) (by simpa using hp)⟩
  | [], _ :: _, hl, _ => by simp at hl
  | _ :: _, [], hl, _ => by simp at hl
theorem Shp.struct {fs : Array Field} (hu : P.underlying t = some (.struct fs)) (h : Shp P H (k + 1) t ls) : ShpFs (Shp P H k) fs.toList ls := by
  unfold Shp at h
  rw [hu] at h
  obtain ⟨ps, rfl, hl, hh⟩ := h
  exact ShpFs.of fs.toList ps (by simpa using hl) hh
def I64 (x : Int) : Prop := -9223372036854775808 ≤ x ∧ x ≤ 9223372036854775807
theorem Shp.int {q : IntKind} (hu : P.underlying t = some (.int q)) (h : Shp P H (k + 1) t ls) : ∃ x, ls = [.i q x] ∧ (Lit.int q x).wf = true := by
  unfold Shp at h
  rw [hu] at h
  exact h
theorem Shp.i64 (hu : P.underlying t = some (.int .i64)) (h : Shp P H (k + 1) t ls) : ∃ x, ls = [.i .i64 x] ∧ I64 x := by
  obtain ⟨x, h1, h2⟩ := h.int hu
  refine ⟨x, h1, ?_⟩
  simp only [Lit.wf, Bool.and_eq_true, decide_eq_true_eq] at h2
  exact h2
theorem Shp.bool (hu : P.underlying t = some .bool) (h : Shp P H (k + 1) t ls) : ∃ x, ls = [.b x] := by
  unfold Shp at h
  rw [hu] at h
  exact h
theorem Shp.string (hu : P.underlying t = some .string) (h : Shp P H (k + 1) t ls) : ∃ x, ls = [.s x] ∧ x.size ≤ maxLen := by
  unfold Shp at h
  rw [hu] at h
  exact h
theorem Shp.slice {e : Nat} (hu : P.underlying t = some (.slice e)) (h : Shp P H (k + 1) t ls) : ls = [.sl none 0] ∨ ∃ id b, ls = [.sl (some (id, 0)) b.rows.length] ∧ blkAt H id = some b ∧ b.elem = e ∧ b.rows.length ≤ maxLen ∧ ∀ row ∈ b.rows, Shp P H k e row := by
  unfold Shp at h
  rw [hu] at h
  rcases h with h | ⟨id, b, h1, h2, h3, h4, h5, h6⟩
  · exact .inl h
  · exact .inr ⟨id, b, h1, by simp [blkAt, h2], h3, h5, h6⟩
theorem rows_of {α : Type} {f : α → List Lf} {R : α → Prop} : ∀ {rows : List (List Lf)}, (∀ row ∈ rows, ∃ x, row = f x ∧ R x) → ∃ xs : List α, rows = xs.map f ∧ ∀ x ∈ xs, R x
  | [], _ => ⟨[], rfl, by simp⟩
  | row :: rows, h => by
    obtain ⟨x, hx, hr⟩ := h row (by simp)
    obtain ⟨xs, hxs, hrs⟩ := rows_of (rows := rows) fun r hr => h r (by simp [hr])
    exact ⟨x :: xs, by rw [hx, hxs]; rfl, fun y hy => by
      rcases List.mem_cons.1 hy with rfl | hy
      · exact hr
      · exact hrs y hy⟩
/-- A slice's leaf, and what it holds: rows 'xs.map f' of a block of elements 'e', read only. -/
def SlR (H : Heap) (e : Nat) (rows : List (List Lf)) (l : Lf) : Prop := (rows = [] ∧ l = .sl none 0) ∨ ∃ id b r, l = .sl (some (id, r)) rows.length ∧ blkAt H id = some b ∧ b.elem = e ∧ r + rows.length ≤ b.rows.length ∧ (b.rows.drop r).take rows.length = rows
theorem Shp.slR {α : Type} {e : Nat} {f : α → List Lf} {R : α → Prop} (hu : P.underlying t = some (.slice e)) (h : Shp P H (k + 1) t ls) (hr : ∀ row, Shp P H k e row → ∃ x, row = f x ∧ R x) :
    ∃ (xs : List α) (l : Lf), ls = [l] ∧ SlR H e (xs.map f) l ∧ xs.length ≤ maxLen ∧ ∀ x ∈ xs, R x := by
  rcases h.slice hu with rfl | ⟨id, b, rfl, hb, he, hm, hrows⟩
  · exact ⟨[], _, rfl, .inl ⟨rfl, rfl⟩, by simp, by simp⟩
  · obtain ⟨xs, hxs, hR⟩ := rows_of fun row hrow => hr row (hrows row hrow)
    refine ⟨xs, _, rfl, .inr ⟨id, b, 0, by rw [hxs], hb, he, ?_, ?_⟩, ?_, hR⟩
    · rw [hxs]; simp
    · rw [hxs, List.drop_zero, List.take_of_length_le (by simp)]
    · have : b.rows.length = xs.length := by rw [hxs]; simp
      omega
end Go.Ab
