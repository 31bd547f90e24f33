/- What values lead to in memory: what is read, what is owned, what is kept. -/
import Derived.Test.YtdojljjiekgapaaGreatDoorAbShp
set_option linter.unusedVariables false
set_option linter.unusedSimpArgs false
namespace Go.Ab
variable {H H' H1 H2 : Heap} {e : Nat} {a : Option (Nat × Nat)} {rows : List (List Lf)} {fp : List Nat}
@[simp] theorem blkAt_consk2 (x : Option Blk) (G : Heap) (a b k : Nat) : blkAt (x :: G) (a + (b + (k + 1))) = blkAt G (a + (b + k)) := blkAt_consk x G (a + (b + k))
@[simp] theorem blkAt_consk3 (x : Option Blk) (G : Heap) (a b c k : Nat) : blkAt (x :: G) (a + (b + (c + (k + 1)))) = blkAt G (a + (b + (c + k))) := blkAt_consk x G (a + (b + (c + k)))
@[simp] theorem set_consk2 (x y : Option Blk) (G : Heap) (a b k : Nat) : List.set (x :: G) (a + (b + (k + 1))) y = x :: List.set G (a + (b + k)) y := rfl
@[simp] theorem set_consk3 (x y : Option Blk) (G : Heap) (a b c k : Nat) : List.set (x :: G) (a + (b + (c + (k + 1)))) y = x :: List.set G (a + (b + (c + k))) y := rfl
/-- All blocks that were, but those of fp, are as they were. -/
def Keep (fp : List Nat) (H H' : Heap) : Prop := H.length ≤ H'.length ∧ ∀ id, id < H.length → id ∉ fp → H'[id]? = H[id]?
theorem Keep.refl (fp : List Nat) (H : Heap) : Keep fp H H := ⟨Nat.le_refl _, fun _ _ _ => rfl⟩
theorem Keep.app (fp : List Nat) (H G : Heap) : Keep fp H (H ++ G) := ⟨by simp, fun id h _ => List.getElem?_append_left h⟩
theorem Keep.trans {f g h : List Nat} (a : Keep f H H1) (b : Keep g H1 H2) (hf : ∀ i ∈ f, i < H.length → i ∈ h) (hg : ∀ i ∈ g, i < H.length → i ∈ h) : Keep h H H2 :=
  ⟨Nat.le_trans a.1 b.1, fun id hi hn => by rw [b.2 id (Nat.lt_of_lt_of_le hi a.1) (fun x => hn (hg id x hi)), a.2 id hi (fun x => hn (hf id x hi))]⟩
theorem Keep.more {f h : List Nat} (a : Keep f H H1) (hf : ∀ i ∈ f, i < H.length → i ∈ h) : Keep h H H1 := ⟨a.1, fun id hi hn => a.2 id hi fun x => hn (hf id x hi)⟩
theorem Keep.base {G : Heap} (h : Keep fp (H ++ G) H') : Keep fp H H' := (Keep.app [] H G).trans h (by simp) fun i hi _ => hi
theorem Keep.next {f : List Nat} (h : Keep [] H H1) (hk : Keep f H1 H2) (hf : ∀ i ∈ f, H.length ≤ i) : Keep [] H H2 := h.trans hk (by simp) fun i hi hl => absurd (hf i hi) (by omega)
theorem Keep.swap {A A' : Heap} (G : Heap) (hl : A'.length = A.length) : Keep (List.range A.length) (A ++ G) (A' ++ G) := ⟨by simp [hl], fun id h hn => by
  have : A.length ≤ id := by simpa using hn
  rw [List.getElem?_append_right (by omega), List.getElem?_append_right (by omega), hl]⟩
theorem Keep.cutP {L L' G G' : Heap} (hl : L'.length = L.length) (hp : G <+: G') : Keep (List.range (H.length + L.length)) (H ++ (L ++ G)) (H ++ (L' ++ G')) := by
  obtain ⟨t, rfl⟩ := hp
  refine ⟨by simp [hl], fun id h hn => ?_⟩
  have : H.length + L.length ≤ id := by simpa using hn
  simp at h
  have e1 : (H ++ (L ++ G))[id]? = G[id - (H.length + L.length)]? := by
    rw [← List.append_assoc, List.getElem?_append_right (by simp; omega)]; simp
  have e2 : (H ++ (L' ++ (G ++ t)))[id]? = G[id - (H.length + L.length)]? := by
    rw [← List.append_assoc, List.getElem?_append_right (by simp; omega), List.getElem?_append_left (by simp; omega)]; simp [hl]
  rw [e1, e2]
theorem nodup_app {f g : List Nat} (h1 : f.Nodup) (h2 : g.Nodup) (hd : ∀ i ∈ f, i ∉ g) : (f ++ g).Nodup := by
  rw [List.nodup_append]
  exact ⟨h1, h2, fun a ha b hb he => hd a ha (he ▸ hb)⟩
theorem Keep.set {id : Nat} (H : Heap) (y : Option Blk) : Keep [id] H (H.set id y) := ⟨by simp, fun j hj hn => by
  rw [List.getElem?_set_ne]; rintro rfl; exact hn (by simp)⟩
/-- What is kept from n on: the first n are. -/
theorem Keep.pre {G : Heap} (h : Keep fp (H ++ G) H') (hf : ∀ i ∈ fp, H.length ≤ i) : ∃ G', H' = H ++ G' := by
  refine ⟨H'.drop H.length, ?_⟩
  have hl := h.1
  rw [List.length_append] at hl
  refine List.ext_getElem? fun i => ?_
  rcases Nat.lt_or_ge i H.length with hi | hi
  · rw [h.2 i (by simp; omega) (fun x => by have := hf i x; omega), List.getElem?_append_left hi, List.getElem?_append_left hi]
  · rw [List.getElem?_append_right hi, List.getElem?_drop]; congr 1; omega
theorem Keep.ext (h : Keep [] H H') : ∃ G, H' = H ++ G := by
  have : Keep [] (H ++ []) H' := by simpa using h
  exact this.pre (by simp)
theorem Keep.blk (h : Keep fp H H') {id : Nat} {b : Blk} (hb : blkAt H id = some b) (hn : id ∉ fp) : blkAt H' id = some b := by
  have := blkAt_len hb
  unfold blkAt at hb ⊢
  rw [h.2 id this hn]; exact hb
/-- What is kept from some blocks on: these are as they were, the rest is another one, in which what is not of fp is as it was. -/
theorem Keep.cut {L G : Heap} (h : Keep fp (H ++ (L ++ G)) H') (hf : ∀ i ∈ fp, H.length + L.length ≤ i) : ∃ G', H' = H ++ (L ++ G') ∧ G.length ≤ G'.length ∧ ∀ k y, blkAt G k = some y → H.length + L.length + k ∉ fp → blkAt G' k = some y := by
  have h' : Keep fp ((H ++ L) ++ G) H' := by rw [List.append_assoc]; exact h
  obtain ⟨G', rfl⟩ := h'.pre (by simpa using hf)
  refine ⟨G', by rw [List.append_assoc], ?_, fun k y hy hn => ?_⟩
  · have := h'.1; simp at this; omega
  · have := h'.blk (id := (H ++ L).length + k) (b := y) (by rw [blkAt_appk]; exact hy) (by simpa using hn)
    rwa [blkAt_appk] at this
theorem Sl.keep (h : Sl H e a rows) (hk : Keep fp H H') (hd : ∀ id r, a = some (id, r) → id ∉ fp) : Sl H' e a rows := fun i row hr => by
  obtain ⟨id, r, b, h1, h2, h3⟩ := h i row hr
  exact ⟨id, r, b, h1, hk.blk h2 (hd id r h1), h3⟩
theorem Sl.len {id r : Nat} (h : Sl H e (some (id, r)) rows) (hr : rows ≠ []) : id < H.length := by
  cases rows with
  | nil => exact absurd rfl hr
  | cons x xs =>
    obtain ⟨_, _, b, h1, h2, _⟩ := h 0 x rfl
    cases h1
    exact blkAt_len h2
/-- A row of elements that is one's own. -/
def Own (H : Heap) (e : Nat) (a : Option (Nat × Nat)) (rows : List (List Lf)) (fp : List Nat) : Prop :=
  (a = none ∧ rows = [] ∧ fp = []) ∨ ∃ id b, a = some (id, 0) ∧ fp = [id] ∧ blkAt H id = some b ∧ b.elem = e ∧ (b.md = .wr ∧ rows <+: b.rows ∨ b.md = .z ∧ rows = [])
theorem Own.nil (H : Heap) (e : Nat) : Own H e none [] [] := .inl ⟨rfl, rfl, rfl⟩
theorem Own.new (H G : Heap) (e : Nat) (rows : List (List Lf)) : Own (H ++ some ⟨e, .wr, rows⟩ :: G) e (some (H.length, 0)) rows [H.length] :=
  .inr ⟨H.length, ⟨e, .wr, rows⟩, rfl, rfl, by simp, rfl, .inl ⟨rfl, List.prefix_refl _⟩⟩
theorem Own.of {e id : Nat} {rows : List (List Lf)} (h : blkAt H id = some ⟨e, .wr, rows⟩) : Own H e (some (id, 0)) rows [id] :=
  .inr ⟨id, ⟨e, .wr, rows⟩, rfl, rfl, h, rfl, .inl ⟨rfl, List.prefix_refl _⟩⟩
theorem Own.sl (h : Own H e a rows fp) : Sl H e a rows := fun i row hr => by
  rcases h with ⟨-, rfl, -⟩ | ⟨id, b, rfl, -, hb, he, ⟨-, hp⟩ | ⟨-, rfl⟩⟩
  · simp at hr
  · obtain ⟨t, ht⟩ := hp
    refine ⟨id, 0, b, rfl, hb, he, ?_⟩
    rw [Nat.zero_add, ← ht, List.getElem?_append_left (List.getElem?_eq_some_iff.1 hr).1]
    exact hr
  · simp at hr
theorem Own.lt (h : Own H e a rows fp) : ∀ i ∈ fp, i < H.length := by
  rcases h with ⟨-, -, rfl⟩ | ⟨id, b, -, rfl, hb, -⟩
  · simp
  · simpa using blkAt_len hb
theorem Own.nodup (h : Own H e a rows fp) : fp.Nodup := by
  rcases h with ⟨-, -, rfl⟩ | ⟨id, b, -, rfl, hb, -⟩ <;> simp
theorem Own.keep {f : List Nat} (h : Own H e a rows fp) (hk : Keep f H H') (hd : ∀ i ∈ fp, i ∉ f) : Own H' e a rows fp := by
  rcases h with h | ⟨id, b, h1, rfl, hb, h2⟩
  · exact .inl h
  · exact .inr ⟨id, b, h1, rfl, hk.blk hb (hd id (by simp)), h2⟩
theorem Own.app (h : Own H e a rows fp) (G : Heap) : Own (H ++ G) e a rows fp := h.keep (Keep.app [] H G) (by simp)
theorem Own.cut {L L' G T : Heap} (h : Own (H ++ L ++ G) e a rows fp) (hf : ∀ i ∈ fp, (H ++ L).length ≤ i) (hl : L'.length = L.length) : Own (H ++ (L' ++ (G ++ T))) e a rows fp := by
  have h1 := h.keep (Keep.swap (A := H ++ L) (A' := H ++ L') G (by simp [hl])) (fun i hi => by have := hf i hi; simp at this ⊢; omega)
  have h2 := h1.app T
  simpa using h2
theorem Own.ids (h : Own H e a rows fp) : ∀ id r, a = some (id, r) → id ∈ fp := by
  rcases h with ⟨rfl, -, -⟩ | ⟨id, b, rfl, rfl, -⟩
  · simp
  · rintro id r ⟨⟩; simp
/-- The block of what is not empty. -/
theorem Own.blk (h : Own H e a rows fp) (hr : rows ≠ []) : ∃ id b, a = some (id, 0) ∧ fp = [id] ∧ blkAt H id = some b ∧ b.elem = e ∧ b.md = .wr ∧ rows <+: b.rows := by
  rcases h with ⟨-, rfl, -⟩ | ⟨id, b, h1, h2, hb, he, ⟨h3, h4⟩ | ⟨-, rfl⟩⟩
  · exact absurd rfl hr
  · exact ⟨id, b, h1, h2, hb, he, h3, h4⟩
  · exact absurd rfl hr
theorem blkAt_set {H : Heap} {id : Nat} {b : Blk} (h : id < H.length) : blkAt (H.set id (some b)) id = some b := by simp [blkAt, h]
theorem blkAt_set_ne {H : Heap} {id j : Nat} {y : Option Blk} (h : j ≠ id) : blkAt (H.set j y) id = blkAt H id := by simp [blkAt, List.getElem?_set_ne h]
/-- A row of it turned. -/
theorem Own.set {id i : Nat} {b : Blk} {row : List Lf} (h : Own H e (some (id, 0)) rows fp) (hb : blkAt H id = some b) (hi : i < rows.length) :
    Own (H.set id (some { b with rows := b.rows.set i row })) e (some (id, 0)) (rows.set i row) fp := by
  obtain ⟨id', b', h1, h2, hb', he, hm, t, ht⟩ := h.blk (by rintro rfl; simp at hi)
  cases h1
  rw [hb] at hb'; injection hb' with hb'; subst hb'
  refine .inr ⟨id, _, rfl, h2, blkAt_set (blkAt_len hb), he, .inl ⟨hm, t, ?_⟩⟩
  simp only
  rw [← ht, List.set_append_left _ _ hi]
theorem rowsOf_sl {n : Nat} (h : Sl H e a rows) (hn : rows.length = n) : rowsOf H a n = some rows := by
  cases n with
  | zero => rw [List.eq_nil_of_length_eq_zero hn]; cases a <;> rfl
  | succ n =>
    obtain ⟨id, r, b, rfl, hb, he, h0⟩ := h 0 _ (List.getElem?_eq_getElem (by omega))
    have key : ∀ i, i < n + 1 → b.rows[r + i]? = rows[i]? := fun i hi => by
      obtain ⟨_, _, b', h1, hb', -, hi'⟩ := h i _ (List.getElem?_eq_getElem (by omega))
      cases h1
      rw [hb] at hb'; injection hb' with hb'; subst hb'
      rw [hi', List.getElem?_eq_getElem (by omega)]
    have hl' := (List.getElem?_eq_some_iff.1 ((key n (by omega)).trans (List.getElem?_eq_getElem (by omega)))).1
    unfold rowsOf
    simp only [hb]
    rw [if_pos (by omega)]
    congr 1
    refine List.ext_getElem? fun i => ?_
    rw [List.getElem?_take]
    split
    · rename_i hi; rw [List.getElem?_drop]; exact key i hi
    · rename_i hi; rw [List.getElem?_eq_none (by omega)]
theorem elem_sl (h : Sl H e a rows) (hr : rows ≠ []) : elemIs H e a = true := by
  cases rows with
  | nil => exact absurd rfl hr
  | cons x xs =>
    obtain ⟨id, r, b, rfl, hb, he, _⟩ := h 0 x rfl
    simp [elemIs, hb, he]
/-- What 'append' does to what is one's own. -/
theorem append_own {τ : Tab} {te : TI} {len : Nat} (h : Own H e a rows fp) (ht : τ e = some te) (hb : 0 < te.bytes) {ys : List (List Lf)} (hs : (rows.length + ys.length) * te.bytes ≤ 140737488355328) (hlen : len = rows.length) :
    ∃ a' H' fp', appendV τ e H a len ys = some (.w (.lf (.sl a' (len + ys.length))), H') ∧ Own H' e a' (rows ++ ys) fp' ∧ Keep fp H H' ∧ (∀ i ∈ fp', i ∈ fp ∨ H.length ≤ i) := by
  subst hlen
  unfold appendV
  rw [ht]
  simp only
  by_cases hy : ys = []
  · subst hy
    rw [if_pos rfl]
    exact ⟨a, H, fp, by simp, by simpa using h, Keep.refl _ _, fun i hi => .inl hi⟩
  rw [if_neg hy, if_pos ⟨hb, hs⟩]
  rcases h with ⟨rfl, rfl, rfl⟩ | ⟨id, b, rfl, rfl, hbk, he, ⟨hm, t, hp⟩ | ⟨hm, rfl⟩⟩
  · simp only [List.length_nil, if_true]
    refine ⟨some (H.length, 0), newBlk H ⟨e, .wr, ys⟩, [H.length], by simp, ?_, Keep.app _ _ _, by simp⟩
    simpa [newBlk] using Own.new H [] e ys
  · simp only [hbk, he, if_true, hm, Nat.zero_add]
    have hl : b.rows.length = rows.length + t.length := by rw [← hp]; simp
    split
    · refine ⟨some (id, 0), _, [id], rfl, .inr ⟨id, _, rfl, rfl, blkAt_set (blkAt_len hbk), rfl, .inl ⟨rfl, ?_⟩⟩, Keep.set _ _, by simp⟩
      simp only
      rw [← hp, List.take_left']
      · exact List.prefix_append _ _
      · rfl
    · rw [if_pos (by omega)]
      refine ⟨some (H.length, 0), newBlk (H.set id none) ⟨e, .wr, (b.rows.drop 0).take rows.length ++ ys⟩, [H.length], rfl, ?_, ?_, by simp⟩
      · have : (b.rows.drop 0).take rows.length = rows := by rw [List.drop_zero, ← hp, List.take_left' rfl]
        rw [this]
        have := Own.new (H.set id none) [] e (rows ++ ys)
        simpa [newBlk] using this
      · exact (Keep.set H none).trans (Keep.app [id] _ _) (by simp) (by simp)
  · simp only [hbk, he, if_true, hm, List.length_nil]
    refine ⟨some (H.length, 0), newBlk H ⟨e, .wr, ys⟩, [H.length], by simp, ?_, Keep.app _ _ _, by simp⟩
    simpa [newBlk] using Own.new H [] e ys
/-- More memory behind what was, and what is handed back lies there. -/
def Fresh (H H' : Heap) (fp : List Nat) : Prop := (∃ G, H' = H ++ G) ∧ ∀ i ∈ fp, H.length ≤ i
theorem Fresh.app (H G : Heap) {fp : List Nat} (h : ∀ i ∈ fp, H.length ≤ i) : Fresh H (H ++ G) fp := ⟨⟨G, rfl⟩, h⟩
theorem Fresh.refl (H : Heap) : Fresh H H [] := ⟨⟨[], by simp⟩, by simp⟩
theorem Fresh.keep {f : List Nat} (h : Fresh H H' fp) : Keep f H H' := by
  obtain ⟨⟨G, rfl⟩, -⟩ := h
  exact Keep.app _ _ _
theorem Fresh.base {G : Heap} (h : Fresh (H ++ G) H' fp) : Fresh H H' fp := by
  obtain ⟨⟨G', rfl⟩, h2⟩ := h
  exact ⟨⟨G ++ G', by simp⟩, fun i hi => by have := h2 i hi; simp at this; omega⟩
theorem Own.app2 {G : Heap} (h : Own (H ++ G) e a rows fp) (G2 : Heap) : Own (H ++ (G ++ G2)) e a rows fp := by rw [← List.append_assoc]; exact h.app G2
theorem Sl.app2 {G : Heap} (h : Sl (H ++ G) e a rows) (G2 : Heap) : Sl (H ++ (G ++ G2)) e a rows := by rw [← List.append_assoc]; exact h.app G2
theorem leave_opt (H H' : Heap) (ws : List W) : leave H H' ws = H' ∨ leave H H' ws = H ∧ ws.all W.free = true := by
  unfold leave
  split
  · rename_i h; exact .inr ⟨rfl, h.1⟩
  · exact .inl rfl
theorem Own.free {n : Nat} (h : Own H' e a rows fp) (hr : refFree (.sl a n) = true) (H2 : Heap) : Own H2 e a rows [] := by
  rcases h with ⟨rfl, rfl, -⟩ | ⟨id, b, rfl, -⟩
  · exact Own.nil _ _
  · simp [refFree] at hr
theorem leave_got {ws : List W} {n : Nat} (h : Own H' e a rows fp) (hf : Fresh H H' fp) (hw : ws.all W.free = true → refFree (.sl a n) = true) : ∃ fp', Own (leave H H' ws) e a rows fp' ∧ Fresh H (leave H H' ws) fp' := by
  rcases leave_opt H H' ws with e | ⟨e, hr⟩ <;> rw [e]
  · exact ⟨fp, h, hf⟩
  · exact ⟨[], h.free (hw hr) H, Fresh.refl H⟩
section
variable {E : Env} {call : Fun} {draw : Bool} {tm : T} {Q : Ex → T → Heap → Prop} {fr : List Fr} {is : List I2}
/-- A call that is known by what it comes to. -/
theorem stpL_runs {f : Nat} {args : List V} {d : Option Nat} {K : V → Heap → Prop} (h : Runs E f args H K) (hk : ∀ v H', K v H' → stpL E call (some (v, H')) d draw is fr tm Q) : stpL E call (run E f args H) d draw is fr tm Q := by
  obtain ⟨v, H', hr, hK⟩ := h
  rw [hr]; exact hk v H' hK
theorem stpL_runs_g {f : Nat} {args : List V} {d : Option Nat} {K : V → Heap → Prop} {x y : List (Nat × Nat × Nat)} (h : Runs E f args H K) (hk : ∀ v H', K v H' → (∃ G, H' = H ++ G) ∧ stpL E call (some (v, H')) d draw is fr tm Q) :
    stpL E call (guardCall E draw (.w (.lf (.fn f x y))) H (run E f args H)) d draw is fr tm Q := by
  obtain ⟨v, H', hr, hK⟩ := h
  obtain ⟨⟨G, rfl⟩, h2⟩ := hk v H' hK
  rw [hr, guard_more]; exact h2
theorem stpL_runs_f {f : Nat} {args : List V} {d : Option Nat} {K : V → Heap → Prop} {x y : List (Nat × Nat × Nat)} (h : Runs E f args H K) (hf : ∀ v H', K v H' → ∃ G, H' = H ++ G) (hk : ∀ v H', K v H' → stpL E call (some (v, H')) d draw is fr tm Q) :
    stpL E call (guardCall E draw (.w (.lf (.fn f x y))) H (run E f args H)) d draw is fr tm Q := stpL_runs_g h fun v H' hK => ⟨hf v H' hK, hk v H' hK⟩
theorem stpL_some_intro {o : Option (V × Heap)} {d : Option Nat} {v : V} (h : o = some (v, H')) (hk : wpL E call draw is fr (updT tm d v) H' Q) : stpL E call o d draw is fr tm Q := by rw [h]; exact hk
/-- 'append' to what is one's own. -/
theorem stpL_append {e t u len n : Nat} {a a2 : Option (Nat × Nat)} {rows ys : List (List Lf)} {fp : List Nat} {te : TI} {d : Option Nat} {x1 x2 y1 y2 : Nat} {z1 z2 : List Lf} {q1 q2 : Bool} (ho : Own H e a rows fp) (hs : Sl H e a2 ys)
    (ht : E.τ t = some ⟨x1, x2, .slice e, z1, q1⟩) (hu : E.τ u = some ⟨y1, y2, .slice e, z2, q2⟩) (hte : E.τ e = some te) (hb : 0 < te.bytes) (hsz : (rows.length + ys.length) * te.bytes ≤ 140737488355328) (hlen : len = rows.length) (hn : ys.length = n)
    (hk : ∀ a' H' fp', Own H' e a' (rows ++ ys) fp' → Keep fp H H' → (∀ i ∈ fp', i ∈ fp ∨ H.length ≤ i) → stpL E call (some (.w (.lf (.sl a' (len + n))), H')) d draw is fr tm Q) :
    stpL E call (appendB E.τ H [t, u] [.w (.lf (.sl a len)), .w (.lf (.sl a2 n))]) d draw is fr tm Q := by
  obtain ⟨a', H', fp', h1, h2, h3, h4⟩ := append_own ho hte hb hsz hlen
  unfold appendB
  simp only [ht, hu]
  have hel : n = 0 ∨ elemIs H e a2 = true := by
    rcases Nat.eq_zero_or_pos n with h0 | h0
    · exact .inl h0
    · exact .inr (elem_sl hs (by rintro rfl; simp at hn; omega))
  rw [if_pos hel, rowsOf_sl hs hn]
  simp only
  rw [h1, hn]
  exact hk a' H' fp' h2 h3 h4
@[simp] theorem builtin_append {τ : Tab} (ts : List Nat) (args : List V) : builtinV τ H .append ts args = appendB τ H ts args := rfl
/-- A builder's new memory after it grew once more. -/
theorem Fresh.grow {G : Heap} {fp' : List Nat} (hf : ∀ i ∈ fp, H.length ≤ i) (hk : Keep fp (H ++ G) H') (h : ∀ i ∈ fp', i ∈ fp ∨ (H ++ G).length ≤ i) : Fresh H H' fp' :=
  ⟨hk.pre hf, fun i hi => by
    rcases h i hi with h | h
    · exact hf i h
    · simp at h; omega⟩
theorem Runs.mono {f : Nat} {args : List V} {K K' : V → Heap → Prop} (h : Runs E f args H K) (hk : ∀ v H', K v H' → K' v H') : Runs E f args H K' := by
  obtain ⟨v, H', hr, hK⟩ := h
  exact ⟨v, H', hr, hk v H' hK⟩
theorem Runs.of {f : Nat} {args : List V} {K : V → Heap → Prop} {v : V} (h : run E f args H = some (v, H')) (hk : K v H') : Runs E f args H K := ⟨v, H', h, hk⟩
end
@[simp] theorem bin_rem {τ : Tab} {t : Nat} {k : IntKind} {a b : Int} (hb : b ≠ 0) : binV τ .rem t (.w (.lf (.i k a))) (.w (.lf (.i k b))) = some (.w (.lf (.i k (a.tmod b)))) := by simp [binV, binInt, cmpI, arI, hb]
@[simp] theorem bin_quo {τ : Tab} {t : Nat} {k : IntKind} {a b : Int} (hb : b ≠ 0) : binV τ .quo t (.w (.lf (.i k a))) (.w (.lf (.i k b))) = some (.w (.lf (.i k (k.wrap (a.tdiv b))))) := by simp [binV, binInt, cmpI, arI, hb]
theorem leave_or (H H' : Heap) (ws : List W) : leave H H' ws = H' ∨ leave H H' ws = H ∧ ∃ G, H' = H ++ G := by
  unfold leave
  split
  · rename_i h
    exact .inr ⟨rfl, H'.drop H.length, by have h1 := List.take_append_drop H.length H'; rw [h.2] at h1; exact h1.symm⟩
  · exact .inl rfl
theorem leave_keep' {ws : List W} (h : Keep fp H H') : Keep fp H (leave H H' ws) := by
  rcases leave_or H H' ws with e | ⟨e, -⟩ <;> rw [e]
  · exact h
  · exact Keep.refl _ _
theorem Own.unapp {G : Heap} (h : Own (H ++ G) e a rows fp) (hf : ∀ i ∈ fp, i < H.length) : Own H e a rows fp := by
  rcases h with h | ⟨id, b, h1, rfl, hb, h2⟩
  · exact .inl h
  · refine .inr ⟨id, b, h1, rfl, ?_, h2⟩
    rwa [blkAt_lt (hf id (by simp))] at hb
theorem leave_own {ws : List W} (h : Own H' e a rows fp) (hf : ∀ i ∈ fp, i < H.length) : Own (leave H H' ws) e a rows fp := by
  rcases leave_or H H' ws with e | ⟨e, G, rfl⟩ <;> rw [e]
  · exact h
  · exact h.unapp hf
theorem Fresh.kp (h : Fresh H H' fp) : Keep [] H H' := h.keep
/-- A slice of plain elements that is one's own; that is read. -/
def IsSl {α : Type} (e : Nat) (enc : α → List Lf) (H : Heap) (q : Lf) (xs : List α) (fp : List Nat) : Prop := ∃ a, q = .sl a xs.length ∧ Own H e a (xs.map enc) fp
def RdSl {α : Type} (e : Nat) (enc : α → List Lf) (H : Heap) (q : Lf) (xs : List α) : Prop := ∃ a, q = .sl a xs.length ∧ Sl H e a (xs.map enc)
section
variable {α : Type} {enc : α → List Lf} {q : Lf} {xs : List α}
theorem IsSl.keep {f : List Nat} (h : IsSl e enc H q xs fp) (hk : Keep f H H') (hd : ∀ i ∈ fp, i ∉ f) : IsSl e enc H' q xs fp := let ⟨a, h1, h2⟩ := h; ⟨a, h1, h2.keep hk hd⟩
theorem IsSl.app (h : IsSl e enc H q xs fp) (G : Heap) : IsSl e enc (H ++ G) q xs fp := let ⟨a, h1, h2⟩ := h; ⟨a, h1, h2.app G⟩
theorem IsSl.lt (h : IsSl e enc H q xs fp) : ∀ i ∈ fp, i < H.length := let ⟨_, _, h2⟩ := h; h2.lt
theorem IsSl.nodup (h : IsSl e enc H q xs fp) : fp.Nodup := let ⟨_, _, h2⟩ := h; h2.nodup
theorem IsSl.rd (h : IsSl e enc H q xs fp) : RdSl e enc H q xs := let ⟨a, h1, h2⟩ := h; ⟨a, h1, h2.sl⟩
theorem RdSl.base (h : RdSl e enc H q xs) (hk : Keep [] H H') : RdSl e enc H' q xs := let ⟨a, h1, h2⟩ := h; ⟨a, h1, h2.keep hk (by simp)⟩
theorem RdSl.app (h : RdSl e enc H q xs) (G : Heap) : RdSl e enc (H ++ G) q xs := h.base (Keep.app _ _ _)
theorem IsSl.free (h : IsSl e enc H' q xs fp) (hr : refFree q = true) (H2 : Heap) : IsSl e enc H2 q xs [] := by
  obtain ⟨a, rfl, h2⟩ := h
  exact ⟨a, rfl, h2.free hr H2⟩
theorem IsSl.leave {ws : List W} (h : IsSl e enc H' q xs fp) (hf : Fresh H H' fp) (hw : ws.all W.free = true → refFree q = true) : ∃ fp', IsSl e enc (leave H H' ws) q xs fp' ∧ Fresh H (leave H H' ws) fp' := by
  rcases leave_opt H H' ws with e | ⟨e, hr⟩ <;> rw [e]
  · exact ⟨fp, h, hf⟩
  · exact ⟨[], h.free (hw hr) H, Fresh.refl H⟩
end
/-! ### Marks -/
/-- Elements that are marked one behind the other. -/
def marked {α : Type} (f : Int → α) (s : Int) : Nat → Int → List α
  | 0, _ => []
  | n + 1, k => f k :: marked f s n (k + s)
@[simp] theorem marked_len {α : Type} (f : Int → α) (s : Int) : ∀ (n : Nat) (k : Int), (marked f s n k).length = n
  | 0, _ => rfl
  | n + 1, k => by simp [marked, marked_len f s n]
theorem marked_get {α : Type} (f : Int → α) (s : Int) : ∀ (n i : Nat) (k : Int), i < n → (marked f s n k)[i]? = some (f (k + s * i))
  | 0, i, k, h => by omega
  | n + 1, 0, k, h => by simp [marked]
  | n + 1, i + 1, k, h => by
    rw [marked, List.getElem?_cons_succ, marked_get f s n i (k + s) (by omega)]
    congr 2
    rw [Int.natCast_add, Int.mul_add]; omega
theorem marked_snoc {α : Type} (f : Int → α) (s : Int) : ∀ (n : Nat) (k : Int), marked f s (n + 1) k = marked f s n k ++ [f (k + s * n)]
  | 0, k => by simp [marked]
  | n + 1, k => by
    rw [marked, marked_snoc f s n (k + s), marked]
    simp only [List.cons_append, List.cons.injEq, true_and, List.append_cancel_left_eq, and_true]
    congr 1
    rw [Int.natCast_add, Int.mul_add]; omega
theorem marked_map {α β : Type} (g : α → β) (f : Int → α) (s : Int) : ∀ (n : Nat) (k : Int), (marked f s n k).map g = marked (fun k => g (f k)) s n k
  | 0, _ => rfl
  | n + 1, k => by simp [marked, marked_map g f s n]
theorem marked_put {α : Type} (f : Int → α) (s : Int) (enc : α → List Lf) (xs : List α) {i : Nat} (hc : i < xs.length) (k : Int) :
    ((marked f s i k ++ xs.drop i).map enc).set i (enc (f (k + s * i))) = (marked f s (i + 1) k ++ xs.drop (i + 1)).map enc := by
  rw [marked_snoc, List.drop_eq_getElem_cons hc, List.map_append, List.map_cons, List.set_append_right _ _ (by simp)]
  simp only [List.length_map, marked_len, Nat.sub_self, List.set_cons_zero, List.map_append, List.map_cons, List.map_nil, List.append_assoc, List.cons_append, List.nil_append]
theorem marked_at {α : Type} (f : Int → α) (s : Int) (enc : α → List Lf) (xs : List α) {i : Nat} (hc : i < xs.length) (k : Int) {t rows : List (List Lf)} (h : (marked f s i k ++ xs.drop i).map enc ++ t = rows) : ∃ hi : i < rows.length, rows[i] = enc xs[i] := by
  refine List.getElem?_eq_some_iff.1 ?_
  rw [← h, List.getElem?_append_left (by simp; omega)]
  simp [List.getElem?_append_right, hc]
/-- What 'held' answers: the number behind all, or none. -/
def heldL {α : Type} [DecidableEq α] (f : Int → α) (s : Int) (xs : List α) (k : Int) : Int := if xs = marked f s xs.length k then k + s * xs.length else -1
theorem heldL_bad {α : Type} [DecidableEq α] {f : Int → α} {s : Int} {xs : List α} {k : Int} {i : Nat} (hc : i < xs.length) (h : xs[i] ≠ f (k + s * i)) : heldL f s xs k = -1 := by
  rw [heldL, if_neg]
  intro he
  have := marked_get f s xs.length i k hc
  rw [← he, List.getElem?_eq_getElem hc] at this
  injection this with this
  exact h this
theorem heldL_step {α : Type} {f : Int → α} {s : Int} {xs : List α} {k : Int} {i : Nat} (hc : i < xs.length) (h : xs[i] = f (k + s * i)) (ht : xs.take i = marked f s i k) : xs.take (i + 1) = marked f s (i + 1) k := by
  rw [marked_snoc, List.take_add_one, ht, List.getElem?_eq_getElem hc, h]; rfl
@[simp] theorem heldL_marked {α : Type} [DecidableEq α] (f : Int → α) (s : Int) (n : Nat) (k : Int) : heldL f s (marked f s n k) k = k + s * n := by simp [heldL]
end Go.Ab
