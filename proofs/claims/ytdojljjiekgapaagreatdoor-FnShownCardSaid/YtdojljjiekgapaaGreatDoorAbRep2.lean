/- Rows of composite elements in memory: read, owned, in the making. -/
import Derived.Test.YtdojljjiekgapaaGreatDoorAbRep
set_option linter.unusedVariables false
set_option linter.unusedSimpArgs false
namespace Go.Ab
variable {α : Type} {H H' H1 H2 : Heap} {e : Nat} {q : Lf} {xs : List α} {fp : List Nat}
structure RepOk (R : Heap → List Lf → α → List Nat → Prop) : Prop where
  keep : ∀ {H H' : Heap} {l : List Lf} {x : α} {fp f : List Nat}, R H l x fp → Keep f H H' → (∀ i ∈ fp, i ∉ f) → R H' l x fp
  lt : ∀ {H : Heap} {l : List Lf} {x : α} {fp : List Nat}, R H l x fp → ∀ i ∈ fp, i < H.length
  nodup : ∀ {H : Heap} {l : List Lf} {x : α} {fp : List Nat}, R H l x fp → fp.Nodup
/-- What lies in the first part lies there without the rest. -/
def UnOk (R : Heap → List Lf → α → List Nat → Prop) : Prop := ∀ {H G : Heap} {l : List Lf} {x : α} {fp : List Nat}, R (H ++ G) l x fp → (∀ i ∈ fp, i < H.length) → R H l x fp
/-- Elements that are made, one behind the other. -/
structure Part (R : Heap → List Lf → α → List Nat → Prop) (H : Heap) (rows : List (List Lf)) (xs : List α) (fps : List (List Nat)) : Prop where
  len : rows.length = xs.length
  len2 : fps.length = xs.length
  at_ : ∀ (i : Nat) (row : List Lf) (x : α) (f : List Nat), rows[i]? = some row → xs[i]? = some x → fps[i]? = some f → R H row x f
  nodup : fps.flatten.Nodup
theorem mem_flat {fps : List (List Nat)} {j : Nat} (h : j ∈ fps.flatten) : ∃ (i : Nat) (f : List Nat), fps[i]? = some f ∧ j ∈ f := by
  obtain ⟨f, hf, hj⟩ := List.mem_flatten.1 h
  obtain ⟨i, hi⟩ := List.getElem?_of_mem hf
  exact ⟨i, f, hi, hj⟩
theorem nodup_flat {fps : List (List Nat)} : fps.flatten.Nodup ↔ (∀ l ∈ fps, l.Nodup) ∧ fps.Pairwise fun a b => ∀ j ∈ a, j ∉ b := by
  unfold List.Nodup
  rw [List.pairwise_flatten]
  refine and_congr Iff.rfl ⟨fun h => h.imp fun h j hj hj' => h j hj j hj' rfl, fun h => h.imp fun h x hx y hy (he : x = y) => h x hx (by rw [he]; exact hy)⟩
theorem flat_mem {fps : List (List Nat)} {i j : Nat} {f : List Nat} (h : fps[i]? = some f) (hj : j ∈ f) : j ∈ fps.flatten := List.mem_flatten.2 ⟨f, List.mem_of_getElem? h, hj⟩
section
variable {R : Heap → List Lf → α → List Nat → Prop} {rows : List (List Lf)} {fps : List (List Nat)}
theorem Part.nil (R : Heap → List Lf → α → List Nat → Prop) (H : Heap) : Part R H [] [] [] := ⟨rfl, rfl, by simp, by simp⟩
theorem Part.get (h : Part R H rows xs fps) {i : Nat} (hi : i < xs.length) : ∃ (h1 : i < rows.length) (h2 : i < fps.length), R H rows[i] xs[i] fps[i] := by
  have h1 : i < rows.length := by rw [h.len]; exact hi
  have h2 : i < fps.length := by rw [h.len2]; exact hi
  exact ⟨h1, h2, h.at_ i _ _ _ (List.getElem?_eq_getElem h1) (List.getElem?_eq_getElem hi) (List.getElem?_eq_getElem h2)⟩
theorem Part.lt (h : Part R H rows xs fps) (ok : RepOk R) : ∀ j ∈ fps.flatten, j < H.length := fun j hj => by
  obtain ⟨i, f, hf, hjf⟩ := mem_flat hj
  have hi : i < fps.length := (List.getElem?_eq_some_iff.1 hf).1
  obtain ⟨h1, h2, hr⟩ := h.get (i := i) (by rw [← h.len2]; exact hi)
  have : fps[i] = f := (List.getElem?_eq_some_iff.1 hf).2
  exact ok.lt hr j (by rw [this]; exact hjf)
theorem Part.keep {f : List Nat} (h : Part R H rows xs fps) (ok : RepOk R) (hk : Keep f H H') (hd : ∀ j ∈ fps.flatten, j ∉ f) : Part R H' rows xs fps :=
  ⟨h.len, h.len2, fun i row x g h1 h2 h3 => ok.keep (h.at_ i row x g h1 h2 h3) hk fun j hj => hd j (flat_mem h3 hj), h.nodup⟩
theorem Part.snoc {row : List Lf} {x : α} {f : List Nat} (h : Part R H rows xs fps) (ok : RepOk R) (hr : R H row x f) (hd : ∀ j ∈ f, j ∉ fps.flatten) : Part R H (rows ++ [row]) (xs ++ [x]) (fps ++ [f]) := by
  refine ⟨by simp [h.len], by simp [h.len2], fun i row' x' g h1 h2 h3 => ?_, ?_⟩
  · rcases Nat.lt_or_ge i xs.length with hi | hi
    · rw [List.getElem?_append_left (by rw [h.len]; exact hi)] at h1
      rw [List.getElem?_append_left hi] at h2
      rw [List.getElem?_append_left (by rw [h.len2]; exact hi)] at h3
      exact h.at_ i row' x' g h1 h2 h3
    · have hl : i < (xs ++ [x]).length := (List.getElem?_eq_some_iff.1 h2).1
      simp at hl
      obtain rfl : i = xs.length := by omega
      rw [List.getElem?_append_right (by rw [h.len]; exact Nat.le_refl _), h.len] at h1
      rw [List.getElem?_append_right (Nat.le_refl _)] at h2
      rw [List.getElem?_append_right (by rw [h.len2]; exact Nat.le_refl _), h.len2] at h3
      simp at h1 h2 h3
      subst h1; subst h2; subst h3
      exact hr
  · rw [List.flatten_append, List.nodup_append]
    refine ⟨h.nodup, by simpa using ok.nodup hr, fun a ha b hb => ?_⟩
    simp at hb
    rintro rfl
    exact hd a hb ha
/-- One element turned, in its own memory. -/
theorem Part.turn {i : Nat} {row : List Lf} {x : α} {g : List Nat} (h : Part R H rows xs fps) (ok : RepOk R) (hk : Keep (fps[i]?.getD []) H H') (hi : i < xs.length) (hr : R H' row x g) (hg : ∀ j ∈ g, j ∈ fps[i]?.getD [] ∨ H.length ≤ j) :
    Part R H' (rows.set i row) (xs.set i x) (fps.set i g) := by
  obtain ⟨h1, h2, h0⟩ := h.get hi
  rw [List.getElem?_eq_getElem h2] at hk hg
  simp only [Option.getD_some] at hk hg
  have apart : ∀ k (hk' : k < fps.length), k ≠ i → ∀ j ∈ fps[k], j ∉ fps[i] := fun k hk' hne j hj hj' => by
    have hn := h.nodup
    rw [nodup_flat] at hn
    have hp := hn.2
    rw [List.pairwise_iff_getElem] at hp
    rcases Nat.lt_or_gt_of_ne hne with hlt | hlt
    · exact hp k i hk' h2 hlt j hj hj'
    · exact hp i k h2 hk' hlt j hj' hj
  refine ⟨by simp [h.len], by simp [h.len2], fun k row' x' g' a1 a2 a3 => ?_, ?_⟩
  · by_cases he : i = k
    · subst he
      rw [List.getElem?_set_self h1] at a1
      rw [List.getElem?_set_self hi] at a2
      rw [List.getElem?_set_self h2] at a3
      injection a1 with a1; injection a2 with a2; injection a3 with a3
      subst a1; subst a2; subst a3
      exact hr
    · rw [List.getElem?_set_ne he] at a1 a2 a3
      have hk' := (List.getElem?_eq_some_iff.1 a3).1
      have hf : fps[k] = g' := (List.getElem?_eq_some_iff.1 a3).2
      exact ok.keep (h.at_ k row' x' g' a1 a2 a3) hk (by rw [← hf]; exact apart k hk' (Ne.symm he))
  · rw [nodup_flat]
    have hn := h.nodup
    rw [nodup_flat] at hn
    refine ⟨fun l hl => ?_, ?_⟩
    · rcases List.mem_or_eq_of_mem_set hl with hl | rfl
      · exact hn.1 l hl
      · exact ok.nodup hr
    · rw [List.pairwise_iff_getElem]
      have hp := hn.2
      rw [List.pairwise_iff_getElem] at hp
      have lt := h.lt ok
      intro a b ha hb hab
      simp only [List.length_set] at ha hb
      have fresh : ∀ k (hk' : k < fps.length), k ≠ i → ∀ j ∈ fps[k], j ∉ g := fun k hk' hne j hj hj' => by
        rcases hg j hj' with hx | hx
        · exact apart k hk' hne j hj hx
        · have := lt j (flat_mem (List.getElem?_eq_getElem hk') hj); omega
      rw [List.getElem_set, List.getElem_set]
      split
      · split
        · omega
        · rename_i h3 h4; intro j hj hj'; exact fresh b hb (by omega) j hj' hj
      · split
        · rename_i h3 h4; intro j hj hj'; exact fresh a ha (by omega) j hj hj'
        · exact hp a b ha hb hab
end
def IsL (e : Nat) (R : Heap → List Lf → α → List Nat → Prop) (H : Heap) (q : Lf) (xs : List α) (fp : List Nat) : Prop :=
  ∃ a rows fp0 fps, q = .sl a xs.length ∧ Own H e a rows fp0 ∧ Part R H rows xs fps ∧ fp = fp0 ++ fps.flatten ∧ fp.Nodup
def RdL (e : Nat) (R : Heap → List Lf → α → Prop) (H : Heap) (q : Lf) (xs : List α) : Prop :=
  ∃ a rows, q = .sl a xs.length ∧ Sl H e a rows ∧ rows.length = xs.length ∧ ∀ (i : Nat) (row : List Lf) (x : α), rows[i]? = some row → xs[i]? = some x → R H row x
section
variable {R : Heap → List Lf → α → List Nat → Prop} {S : Heap → List Lf → α → Prop}
theorem IsL.keep {f : List Nat} (h : IsL e R H q xs fp) (ok : RepOk R) (hk : Keep f H H') (hd : ∀ i ∈ fp, i ∉ f) : IsL e R H' q xs fp := by
  obtain ⟨a, rows, fp0, fps, h1, h2, h3, rfl, h5⟩ := h
  exact ⟨a, rows, fp0, fps, h1, h2.keep hk fun i hi => hd i (by simp [hi]), h3.keep ok hk fun i hi => hd i (by rw [List.mem_append]; exact .inr hi), rfl, h5⟩
theorem IsL.lt (h : IsL e R H q xs fp) (ok : RepOk R) : ∀ i ∈ fp, i < H.length := by
  obtain ⟨a, rows, fp0, fps, h1, h2, h3, rfl, h5⟩ := h
  intro i hi
  rcases List.mem_append.1 hi with hi | hi
  · exact h2.lt i hi
  · exact h3.lt ok i hi
theorem IsL.unapp {G : Heap} (h : IsL e R (H ++ G) q xs fp) (ok : RepOk R) (un : UnOk R) (hf : ∀ i ∈ fp, i < H.length) : IsL e R H q xs fp := by
  obtain ⟨a, rows, fp0, fps, h1, h2, h3, rfl, h5⟩ := h
  exact ⟨a, rows, fp0, fps, h1, h2.unapp fun i hi => hf i (by simp [hi]), ⟨h3.len, h3.len2, fun i row x f a1 a2 a3 => un (h3.at_ i row x f a1 a2 a3) fun j hj => hf j (List.mem_append.2 (.inr (flat_mem a3 hj))), h3.nodup⟩, rfl, h5⟩
theorem IsL.nodup (h : IsL e R H q xs fp) : fp.Nodup := by obtain ⟨a, rows, fp0, fps, h1, h2, h3, h4, h5⟩ := h; exact h5
theorem IsL.rd (h : IsL e R H q xs fp) (hs : ∀ {H l x f}, R H l x f → S H l x) : RdL e S H q xs := by
  obtain ⟨a, rows, fp0, fps, h1, h2, h3, rfl, h5⟩ := h
  refine ⟨a, rows, h1, h2.sl, h3.len, fun i row x hr hx => ?_⟩
  have hi := (List.getElem?_eq_some_iff.1 hx).1
  have h2 : i < fps.length := by rw [h3.len2]; exact hi
  exact hs (h3.at_ i row x _ hr hx (List.getElem?_eq_getElem h2))
theorem RdL.base (h : RdL e S H q xs) (hs : ∀ {H H' l x}, S H l x → Keep [] H H' → S H' l x) (hk : Keep [] H H') : RdL e S H' q xs := by
  obtain ⟨a, rows, h1, h2, h3, h4⟩ := h
  exact ⟨a, rows, h1, h2.keep hk (by simp), h3, fun i row x hr hx => hs (h4 i row x hr hx) hk⟩
theorem IsL.empty (h : IsL e R H' q xs fp) (hr : refFree q = true) : xs = [] ∧ q = .sl none 0 := by
  obtain ⟨a, rows, fp0, fps, rfl, h2, h3, rfl, h5⟩ := h
  have hl := h3.len
  rcases h2 with ⟨rfl, rfl, rfl⟩ | ⟨id, b, rfl, -⟩
  · have hx : xs = [] := List.eq_nil_of_length_eq_zero (by simpa using hl.symm)
    subst hx
    exact ⟨rfl, rfl⟩
  · simp [refFree] at hr
theorem IsL.emp (R : Heap → List Lf → α → List Nat → Prop) (e : Nat) (H : Heap) : IsL e R H (.sl none 0) ([] : List α) [] := ⟨none, [], [], [], rfl, Own.nil _ _, Part.nil R H, rfl, by simp⟩
end
end Go.Ab
