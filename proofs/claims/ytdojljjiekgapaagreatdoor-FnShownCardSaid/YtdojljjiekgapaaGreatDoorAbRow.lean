/- From what a given row says of its arguments to the abstract run, and back: a law that answers true in the abstract run answers true in the machine, and turns nothing. -/
import Derived.Test.YtdojljjiekgapaaGreatDoorAbDraw6
import Derived.ProofKit
set_option linter.unusedVariables false
set_option linter.unusedSimpArgs false
namespace Go.Ab
open Go.ChangeShapes Go.WideShapes Go.ChangeAt Go.RowKit
variable {P : Program} {Hh : Type} {enc : TypeId × Value → Hh} {w : World}

def NoWr (H : Heap) : Prop := ∀ (id : Nat) (b : Blk), H[id]? = some (some b) → b.md ≠ .wr
def laidB (P : Program) : List Field → Nat → Nat → Bool
  | [], o, total => o == total
  | f :: fs, o, total => f.offset == o && laidB P fs (o + P.cellsOf f.type) total
/-- Types of flags, whole numbers, texts, slices and structs alone. -/
def tyB (P : Program) : Nat → Nat → Bool
  | 0, _ => false
  | k + 1, t => match P.underlying t with
    | some .bool => true
    | some (.int _) => true
    | some .string => true
    | some (.slice e) => decide (0 < P.cellsOf e) && tyB P k e
    | some (.struct fs) => laidB P fs.toList 0 (P.cellsOf t) && fs.toList.all fun (f : Field) => tyB P k f.type
    | _ => false
/-- What the cells of a type are, and what they lead to. -/
def Shp (P : Program) (H : Heap) : Nat → Nat → List Lf → Prop
  | 0, _, _ => False
  | k + 1, t, ls => match P.underlying t with
    | some .bool => ∃ b, ls = [.b b]
    | some (.int q) => ∃ x, ls = [.i q x] ∧ (Lit.int q x).wf = true
    | some .string => ∃ s, ls = [.s s] ∧ s.size ≤ maxLen
    | some (.slice e) => ls = [.sl none 0] ∨ ∃ id b, ls = [.sl (some (id, 0)) b.rows.length] ∧ H[id]? = some (some b) ∧ b.elem = e ∧ b.md ≠ .wr ∧ b.rows.length ≤ maxLen ∧ ∀ row ∈ b.rows, Shp P H k e row
    | some (.struct fs) => ∃ ps : List (List Lf), ls = ps.flatten ∧ ps.length = fs.size ∧ ∀ (i : Nat) (f : Field) (p : List Lf), fs.toList[i]? = some f → ps[i]? = some p → Shp P H k f.type p
    | _ => False
theorem Shp.grow {H : Heap} (G : Heap) : ∀ {k t : Nat} {ls : List Lf}, Shp P H k t ls → Shp P (H ++ G) k t ls
  | 0, _, _, h => h
  | k + 1, t, ls, h => by
    unfold Shp at h ⊢
    cases hu : P.underlying t with
    | none => rw [hu] at h; exact h
    | some u =>
      rw [hu] at h
      cases u <;> first | exact h | skip
      case slice e =>
        rcases h with h | ⟨id, b, h1, h2, h3, h4, h5, h6⟩
        · exact .inl h
        · exact .inr ⟨id, b, h1, by rw [List.getElem?_append_left (List.getElem?_eq_some_iff.1 h2).1]; exact h2, h3, h4, h5, fun row hr => (h6 row hr).grow G⟩
      case struct fs =>
        obtain ⟨ps, h1, h2, h3⟩ := h
        exact ⟨ps, h1, h2, fun i f p hf hp => (h3 i f p hf hp).grow G⟩
theorem NoWr.push {H : Heap} (h : NoWr H) {b : Blk} (hb : b.md ≠ .wr) : NoWr (H ++ [some b]) := fun id b' hb' => by
  rcases Nat.lt_or_ge id H.length with hl | hl
  · rw [List.getElem?_append_left hl] at hb'; exact h id b' hb'
  · rw [List.getElem?_append_right hl] at hb'
    cases hn : id - H.length with
    | zero => rw [hn] at hb'; simp at hb'; subst hb'; exact hb
    | succ n => rw [hn] at hb'; simp at hb'
theorem Rel.push {μ : Mu} {H : Heap} (hR : Rel P μ H w) (hn : NoWr H) {L : Loc} {b : Blk} (hb : BlkRel P (upd μ H.length L) L b w) (hw : b.md ≠ .wr) :
    Rel P (upd μ H.length L) (H ++ [some b]) w where
  dom := fun id L' hl => by
    simp only [upd] at hl
    simp only [List.length_append, List.length_singleton]
    split at hl
    · omega
    · have := hR.dom id L' hl; omega
  blk := fun id L' b' hl hb' => by
    simp only [upd] at hl
    split at hl
    · rename_i he
      subst he
      injection hl with hl
      subst hl
      simp at hb'
      subst hb'
      exact hb
    · have hd := hR.dom id L' hl
      rw [List.getElem?_append_left hd] at hb'
      exact (hR.blk id L' b' hl hb').of_any (upd_ext hR.dom L)
  inj := fun i1 L1 b1 i2 L2 b2 hne h1 hb1 h2 hb2 hw1 hz => by
    exfalso
    refine (hn.push hw) i1 b1 hb1 ?_
    simp only [upd] at h1
    split at h1
    · rename_i he
      subst he
      injection h1 with h1
      subst h1
      simp at hb1
      subst hb1
      rw [hb.md]; exact hw1
    · have hd := hR.dom i1 L1 h1
      rw [List.getElem?_append_left hd] at hb1
      rw [(hR.blk i1 L1 b1 h1 hb1).md]; exact hw1
theorem All2.flatten {α β : Type} {R : α → β → Prop} : ∀ {as : List (List α)} {bs : List (List β)}, as.length = bs.length → (∀ (i : Nat) (a : List α) (b : List β), as[i]? = some a → bs[i]? = some b → All2 R a b) → All2 R as.flatten bs.flatten
  | [], [], _, _ => .nil
  | [], _ :: _, h, _ => by simp at h
  | _ :: _, [], h, _ => by simp at h
  | a :: as, b :: bs, h, hh => by
    simp only [List.flatten_cons]
    exact (hh 0 a b rfl rfl).append (All2.flatten (by simpa using h) fun i x y hx hy => hh (i + 1) x y (by simpa using hx) (by simpa using hy))
theorem laid_flatten {cs : List Value} : ∀ (fs : List Field) (o : Nat), laidB P fs o cs.length = true → (fs.map fun f => (cs.drop f.offset).take (P.cellsOf f.type)).flatten = cs.drop o
  | [], o, h => by
    simp only [laidB, beq_iff_eq] at h
    simp [h]
  | f :: fs, o, h => by
    simp only [laidB, Bool.and_eq_true, beq_iff_eq] at h
    simp only [List.map_cons, List.flatten_cons, laid_flatten fs _ h.2, h.1]
    rw [← List.drop_drop]
    exact List.take_append_drop _ _
/-- The road from a reading to leaves, for one type. -/
def LayOk (P : Program) (enc : TypeId × Value → Hh) (w : World) (held : Bool) (k : Nat) : Prop := ∀ (t : Nat) (cs : List Value) (n : Nat) (x : DataW Hh × List MemPlace) (H : Heap) (μ : Mu), tyB P k t = true →
  DataW.trod enc P w 0 (fun _ => true) held n t cs = some x → Rel P μ H w → NoWr H →
  ∃ (G : Heap) (μ' : Mu) (ls : List Lf), Ext μ μ' ∧ Rel P μ' (H ++ G) w ∧ NoWr (H ++ G) ∧ All2 (LRel μ') ls cs ∧ Shp P (H ++ G) k t ls
theorem LayOk.list {held : Bool} {k : Nat} (hk : LayOk P enc w held k) : ∀ (items : List (Nat × List Value)) (H : Heap) (μ : Mu), (∀ it ∈ items, tyB P k it.1 = true ∧ ∃ n x, DataW.trod enc P w 0 (fun _ => true) held n it.1 it.2 = some x) →
    Rel P μ H w → NoWr H → ∃ (G : Heap) (μ' : Mu) (lss : List (List Lf)), Ext μ μ' ∧ Rel P μ' (H ++ G) w ∧ NoWr (H ++ G) ∧ lss.length = items.length ∧
      ∀ (i : Nat) (it : Nat × List Value) (l : List Lf), items[i]? = some it → lss[i]? = some l → All2 (LRel μ') l it.2 ∧ Shp P (H ++ G) k it.1 l
  | [], H, μ, _, hR, hn => ⟨[], μ, [], Ext.refl _, by simpa using hR, by simpa using hn, rfl, by simp⟩
  | it :: items, H, μ, h, hR, hn => by
    obtain ⟨ht, n, x, hx⟩ := h it (by simp)
    obtain ⟨G1, μ1, l, e1, r1, n1, a1, s1⟩ := hk it.1 it.2 n x H μ ht hx hR hn
    obtain ⟨G2, μ2, lss, e2, r2, n2, len, hh⟩ := LayOk.list hk items (H ++ G1) μ1 (fun it' hi => h it' (by simp [hi])) r1 n1
    refine ⟨G1 ++ G2, μ2, l :: lss, e1.trans e2, by rw [← List.append_assoc]; exact r2, by rw [← List.append_assoc]; exact n2, by simp [len], fun i it' l' hi hl => ?_⟩
    rw [← List.append_assoc]
    cases i with
    | zero =>
      simp at hi hl
      subst hi; subst hl
      exact ⟨a1.mono fun _ _ => LRel.ext e2, s1.grow G2⟩
    | succ i => exact hh i it' l' (by simpa using hi) (by simpa using hl)
theorem lay (held : Bool) : ∀ (k : Nat), LayOk P enc w held k
  | 0 => fun t cs n x H μ ht => by simp [tyB] at ht
  | k + 1 => fun t cs n x H μ ht hx hR hn => by
    have ih := lay held k
    unfold tyB at ht
    split at ht
    · rename_i hu
      obtain ⟨b, rfl, -⟩ := DataW.trod_bool hu hx
      exact ⟨[], μ, [.b b], Ext.refl _, by simpa using hR, by simpa using hn, All2.nil.cons rfl, by unfold Shp; rw [hu]; exact ⟨b, rfl⟩⟩
    · rename_i q hu
      obtain ⟨m, rfl, -, hw⟩ := DataW.trod_int hu hx
      exact ⟨[], μ, [.i q m], Ext.refl _, by simpa using hR, by simpa using hn, All2.nil.cons rfl, by unfold Shp; rw [hu]; exact ⟨m, rfl, hw⟩⟩
    · rename_i hu
      obtain ⟨s, rfl, -, hw⟩ := DataW.trod_string hu hx
      exact ⟨[], μ, [.s s], Ext.refl _, by simpa using hR, by simpa using hn, All2.nil.cons rfl, by unfold Shp; rw [hu]; exact ⟨s, rfl, hw⟩⟩
    · rename_i e hu
      simp only [Bool.and_eq_true, decide_eq_true_eq] at ht
      rcases DataW.trod_slice hu hx with ⟨rfl, -⟩ | ⟨a, len, cap, elems, rest, m, -, rfl, -, -, hlc, hcm, hel, helem, hrest, -⟩
      · exact ⟨[], μ, [.sl none 0], Ext.refl _, by simpa using hR, by simpa using hn, All2.nil.cons ⟨rfl, rfl⟩, by unfold Shp; rw [hu]; exact .inl rfl⟩
      · obtain ⟨hrl, hrest⟩ := hrest rfl
        let cell (i : Nat) : List Value := (w.cells? 0 (a.add (i * P.cellsOf e)) (P.cellsOf e)).getD []
        have hcell : ∀ i, i < len → ∃ y, w.cells? 0 (a.add (i * P.cellsOf e)) (P.cellsOf e) = some (cell i) ∧ DataW.trod enc P w 0 (fun _ => true) held m e (cell i) = some y := fun i hi => by
          have h1 := helem i hi
          rw [List.getElem?_eq_getElem (by rw [hel]; exact hi)] at h1
          obtain ⟨c, hc, ht⟩ := Option.bind_eq_some_iff.1 h1
          exact ⟨_, by simp [cell, hc], by simpa [cell, hc] using ht⟩
        obtain ⟨G, μ', lss, e1, r1, n1, llen, hh⟩ := ih.list ((List.range len).map fun i => (e, cell i)) H μ (fun it hi => by
          simp only [List.mem_map, List.mem_range] at hi
          obtain ⟨i, hi, rfl⟩ := hi
          obtain ⟨y, -, hy⟩ := hcell i hi
          exact ⟨ht.2, m, y, hy⟩) hR hn
        have llen : lss.length = len := by simpa using llen
        have hh' : ∀ (i : Nat) (l : List Lf), lss[i]? = some l → i < len ∧ All2 (LRel μ') l (cell i) ∧ Shp P (H ++ G) k e l := fun i l hl => by
          have hi : i < len := by rw [← llen]; exact (List.getElem?_eq_some_iff.1 hl).1
          exact ⟨hi, hh i (e, cell i) l (by simp [hi]) hl⟩
        have hspot : 0 < cap → a.spot = none ∧ a.block < w.heap.size := fun hc => by
          have : ∃ cs', w.cells? 0 a (P.cellsOf e) = some cs' := by
            rcases Nat.eq_zero_or_pos len with h0 | h0
            · subst h0
              have h1 := hrest 0 (by omega)
              rw [List.getElem?_eq_getElem (by rw [hrl]; omega)] at h1
              obtain ⟨c, hc, -⟩ := Option.bind_eq_some_iff.1 h1
              exact ⟨c, by simpa [Addr.add] using hc⟩
            · obtain ⟨y, hy, -⟩ := hcell 0 h0
              exact ⟨_, by simpa [Addr.add] using hy⟩
          obtain ⟨cs', hc'⟩ := this
          have hb := World.cells?_block hc' ht.1
          obtain ⟨_, hl, hc⟩ := World.cells?_some hc'
          have h0 := hc 0 ht.1
          rw [List.getElem?_eq_getElem (by rw [hl]; exact ht.1)] at h0
          refine ⟨?_, hb⟩
          cases hs : a.spot with
          | none => rfl
          | some s =>
            exfalso
            have : w.cell? (a.add 0) = none := by
              simp only [Addr.add, if_true, World.cell?, hs]
              split <;> rfl
            rw [this] at h0
            cases h0
        let L : Loc := ⟨a.block, a.off, P.cellsOf e, len, if cap = 0 then .z else .ro, e, 0⟩
        let b : Blk := ⟨e, if cap = 0 then .z else .ro, lss⟩
        have hbw : b.md ≠ .wr := by simp only [b]; split <;> simp
        have hblk : BlkRel P (upd μ' (H ++ G).length L) L b w := by
          refine ⟨rfl, rfl, llen, rfl, ?_, ?_, ?_, ?_, ?_, fun h => absurd h hbw⟩
          · intro r row hr
            obtain ⟨hi, hA, -⟩ := hh' r row hr
            obtain ⟨y, hy, -⟩ := hcell r hi
            rw [hA.len, (World.cells?_some hy).2.1]
          · intro r row hr q l hq
            obtain ⟨hi, hA, -⟩ := hh' r row hr
            obtain ⟨y, hy, -⟩ := hcell r hi
            obtain ⟨v, hv, hrel⟩ := hA.get hq
            refine ⟨v, ?_, hrel.ext (upd_ext r1.dom L)⟩
            have hq' : q < P.cellsOf e := by
              have := (List.getElem?_eq_some_iff.1 hv).1
              rw [(World.cells?_some hy).2.1] at this; exact this
            have := (World.cells?_some hy).2.2 q hq'
            rw [hv] at this
            have hs := (hspot (by omega)).1
            have e1 : ((a.add (r * P.cellsOf e)).add q) = ⟨a.block, a.off + r * P.cellsOf e + q, none⟩ := by
              cases a
              simp only at hs
              subst hs
              simp only [Addr.add]
              by_cases h1 : r * P.cellsOf e = 0 <;> by_cases h2 : q = 0 <;> simp [h1, h2]
            rw [e1] at this
            exact this
          · intro hz
            simp only [L] at hz ⊢
            split at hz
            · omega
            · cases hz
          · intro hz
            simp only [L] at hz ⊢
            split at hz
            · simp at hz
            · exact (hspot (by omega)).2
          · intro hz
            simp only [L] at hz
            split at hz <;> cases hz
        refine ⟨G ++ [some b], upd μ' (H ++ G).length L, [.sl (some ((H ++ G).length, 0)) len], e1.trans (upd_ext r1.dom L), by rw [← List.append_assoc]; exact r1.push n1 hblk hbw, by rw [← List.append_assoc]; exact n1.push hbw, ?_, ?_⟩
        · refine All2.nil.cons ⟨L, a, cap, upd_same _ _ _, rfl, hlc, fun hc => ?_, fun hz => ?_, fun hz => ?_⟩
          · have hs := (hspot hc).1
            cases a
            simp only at hs
            subst hs
            simp [L]
          · simp only [L] at hz
            split at hz
            · assumption
            · cases hz
          · simp only [L] at hz
            split at hz <;> cases hz
        · unfold Shp
          rw [hu]
          refine .inr ⟨(H ++ G).length, b, by simp [b, llen], by rw [← List.append_assoc]; simp, rfl, hbw, by simp only [b]; rw [llen]; omega, fun row hr => ?_⟩
          obtain ⟨i, hi⟩ := List.getElem?_of_mem hr
          rw [← List.append_assoc]
          exact (hh' i row hi).2.2.grow _
    · rename_i fs hu
      simp only [Bool.and_eq_true, List.all_eq_true] at ht
      obtain ⟨xs, m, -, -, hlen, hxl, hf⟩ := DataW.trod_struct hu hx
      obtain ⟨G, μ', lss, e1, r1, n1, llen, hh⟩ := ih.list (fs.toList.map fun f => (f.type, (cs.drop f.offset).take (P.cellsOf f.type))) H μ (fun it hi => by
        simp only [List.mem_map] at hi
        obtain ⟨f, hfm, rfl⟩ := hi
        refine ⟨ht.2 f hfm, m, ?_⟩
        obtain ⟨i, hi⟩ := List.getElem?_of_mem hfm
        have h1 := hf i f (by simpa using hi)
        have hil : i < xs.length := by rw [hxl]; simpa using (List.getElem?_eq_some_iff.1 hi).1
        rw [List.getElem?_eq_getElem hil] at h1
        exact ⟨_, h1⟩) hR hn
      refine ⟨G, μ', lss.flatten, e1, r1, n1, ?_, ?_⟩
      · have := laid_flatten (P := P) (cs := cs) fs.toList 0 (by rw [hlen]; exact ht.1)
        simp only [List.drop_zero] at this
        rw [← this]
        refine All2.flatten (by simpa using llen) fun i a b ha hb => ?_
        rw [List.getElem?_map] at hb
        cases hff : fs.toList[i]? with
        | none => simp only [hff] at hb; simp at hb
        | some f =>
          simp only [hff, Option.map_some, Option.some.injEq] at hb
          subst hb
          exact (hh i (f.type, _) a (by rw [List.getElem?_map, hff]; rfl) ha).1
      · unfold Shp
        rw [hu]
        exact ⟨lss, rfl, by simpa using llen, fun i f p hff hp => (hh i (f.type, _) p (by rw [List.getElem?_map, hff]; rfl) hp).2⟩
    · cases ht
end Go.Ab
