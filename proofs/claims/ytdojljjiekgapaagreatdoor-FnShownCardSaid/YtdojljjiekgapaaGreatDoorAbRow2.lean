/- A law that answers true in the abstract run: its given row. -/
import Derived.Test.YtdojljjiekgapaaGreatDoorAbRow
set_option linter.unusedVariables false
set_option linter.unusedSimpArgs false
namespace Go.Ab
open Go.ChangeShapes Go.WideShapes Go.ChangeAt Go.RowKit
variable {P : Program} {Hh : Type} {enc : TypeId × Value → Hh} {w : World}

/-- An argument, out of its cells. -/
def argV (P : Program) (t : Nat) (ls : List Lf) : V := match P.underlying t with
  | some (.struct _) => .w (.agg ls)
  | _ => match ls with
    | [l] => .w (.lf l)
    | _ => .bad
theorem argV_rel {k base : Nat} {t : Nat} {v : Value} {μ : Mu} {H : Heap} {ls : List Lf} (ht : tyB P k t = true) (hv : Value.okWide P w .any base t v) (ha : All2 (LRel μ) ls v.cells.toList) : VRel μ (argV P t ls) v := by
  have one : ∀ {v : Value}, v.cells = #[v] → All2 (LRel μ) ls v.cells.toList → (∀ fs, P.underlying t ≠ some (.struct fs)) → VRel μ (argV P t ls) v := fun {v} hc h hs => by
    rw [hc] at h
    obtain ⟨hl, hat⟩ := h
    match ls, hl with
    | [l], _ =>
      have h0 := hat 0 l v rfl rfl
      unfold argV
      split
      · rename_i fs hu; exact absurd hu (hs fs)
      · exact h0
  cases k with
  | zero => simp [tyB] at ht
  | succ k =>
    unfold tyB at ht
    split at ht
    · rename_i hu
      obtain ⟨b, rfl⟩ := okWide_bool hu hv
      exact one rfl ha (fun fs h => by rw [hu] at h; cases h)
    · rename_i q hu
      obtain ⟨b, rfl⟩ := okWide_int hu hv
      exact one rfl ha (fun fs h => by rw [hu] at h; cases h)
    · rename_i hu
      obtain ⟨b, rfl⟩ := okWide_string hu hv
      exact one rfl ha (fun fs h => by rw [hu] at h; cases h)
    · rename_i e hu
      obtain ⟨a, l, c, rfl⟩ := okWide_slice hu hv
      exact one rfl ha (fun fs h => by rw [hu] at h; cases h)
    · rename_i fs hu
      simp only [Value.okWide, hu] at hv
      obtain ⟨cs, rfl, -, -⟩ := hv
      simp only [argV, hu]
      exact ⟨cs.toList, by simp, by simpa [Value.cells] using ha⟩
    · cases ht
theorem layAll {base : Nat} (k : Nat) : ∀ (ts : List TypeId) (vs : List Value) (ds : List (DataW Hh)) (ps : List MemPlace) (H : Heap) (μ : Mu), DataW.TrodAll enc P w 0 (fun _ => true) true ts vs ds ps →
    ts.all (tyB P k) = true → (∀ (j : Nat) (t : TypeId) (v : Value), ts[j]? = some t → vs[j]? = some v → Value.okWide P w .any base t v) → Rel P μ H w → NoWr H →
    ∃ (G : Heap) (μ' : Mu) (lss : List (List Lf)), Ext μ μ' ∧ Rel P μ' (H ++ G) w ∧ NoWr (H ++ G) ∧ All2 (VRel μ') (List.zipWith (argV P) ts lss) vs ∧ lss.length = ts.length ∧ ds.length = ts.length ∧
      ∀ (i : Nat) (t : Nat) (l : List Lf), ts[i]? = some t → lss[i]? = some l → Shp P (H ++ G) k t l
  | [], [], [], ps, H, μ, _, _, _, hR, hn => ⟨[], μ, [], Ext.refl _, by simpa using hR, by simpa using hn, by simpa using All2.nil, rfl, rfl, by simp⟩
  | t :: ts, v :: vs, d :: ds, ps, H, μ, h, ht, hv, hR, hn => by
    obtain ⟨p, q, ⟨n, h1⟩, h2, -⟩ := h
    simp only [List.all_cons, Bool.and_eq_true] at ht
    obtain ⟨G1, μ1, l, e1, r1, n1, a1, s1⟩ := lay true k t _ n _ H μ ht.1 h1 hR hn
    obtain ⟨G2, μ2, lss, e2, r2, n2, a2, len, dlen, s2⟩ := layAll k ts vs ds q (H ++ G1) μ1 h2 ht.2 (fun j t' v' hj hj' => hv (j + 1) t' v' (by simpa using hj) (by simpa using hj')) r1 n1
    refine ⟨G1 ++ G2, μ2, l :: lss, e1.trans e2, by rw [← List.append_assoc]; exact r2, by rw [← List.append_assoc]; exact n2, ?_, by simp [len], by simp [dlen], fun i t' l' hi hl => ?_⟩
    · simp only [List.zipWith_cons_cons]
      exact a2.cons ((argV_rel (H := H) ht.1 (hv 0 t v rfl rfl) a1).ext e2)
    · rw [← List.append_assoc]
      cases i with
      | zero => simp at hi hl; subst hi; subst hl; exact s1.grow _
      | succ i => exact s2 i t' l' (by simpa using hi) (by simpa using hl)
  | [], [], _ :: _, _, _, _, h, _, _, _, _ => by simp [DataW.TrodAll] at h
  | [], _ :: _, [], _, _, _, h, _, _, _, _ => by simp [DataW.TrodAll] at h
  | [], _ :: _, _ :: _, _, _, _, h, _, _, _, _ => by simp [DataW.TrodAll] at h
  | _ :: _, [], [], _, _, _, h, _, _, _, _ => by simp [DataW.TrodAll] at h
  | _ :: _, [], _ :: _, _, _, _, h, _, _, _, _ => by simp [DataW.TrodAll] at h
  | _ :: _, _ :: _, [], _, _, _, h, _, _, _, _ => by simp [DataW.TrodAll] at h

/-! ### The types that are spoken of, for the kit's lemmas on readings -/
theorem laid_sum : ∀ (fs : List Field) (o total : Nat), laidB P fs o total = true → total = o + (fs.map fun f => P.cellsOf f.type).sum ∧
    ∀ (j : Nat) (f : Field), fs[j]? = some f → f.offset = o + ((fs.take j).map fun f => P.cellsOf f.type).sum
  | [], o, total, h => by
    simp only [laidB, beq_iff_eq] at h
    simp [h]
  | f :: fs, o, total, h => by
    simp only [laidB, Bool.and_eq_true, beq_iff_eq] at h
    obtain ⟨h1, h2⟩ := laid_sum fs _ _ h.2
    refine ⟨by simp only [List.map_cons, List.sum_cons]; omega, fun j g hg => ?_⟩
    cases j with
    | zero => simp at hg; subst hg; simp [h.1]
    | succ j =>
      have := h2 j g (by simpa using hg)
      simp only [List.take_succ_cons, List.map_cons, List.sum_cons]
      omega
theorem kidsTy : Kids P (fun t => ∃ k, tyB P k t = true) where
  pointer := fun {t e} ⟨k, h⟩ hu => by cases k with | zero => simp [tyB] at h | succ k => simp [tyB, hu] at h
  slice := fun {t e} ⟨k, h⟩ hu => by
    cases k with
    | zero => simp [tyB] at h
    | succ k => simp only [tyB, hu, Bool.and_eq_true] at h; exact ⟨k, h.2⟩
  array := fun {t e n} ⟨k, h⟩ hu => by cases k with | zero => simp [tyB] at h | succ k => simp [tyB, hu] at h
  struct := fun {t fs} ⟨k, h⟩ hu => by
    cases k with
    | zero => simp [tyB] at h
    | succ k =>
      simp only [tyB, hu, Bool.and_eq_true, List.all_eq_true] at h
      obtain ⟨h1, h2⟩ := laid_sum fs.toList 0 _ h.1
      exact ⟨fun f hf => ⟨k, h.2 f hf⟩, by omega, fun j f hf => by have := h2 j f hf; omega⟩
  map := fun {t k e} ⟨n, h⟩ hu => by cases n with | zero => simp [tyB] at h | succ n => simp [tyB, hu] at h
theorem rowsTy : ∀ t e, (∃ k, tyB P k t = true) → P.underlying t = some (.slice e) → 0 < P.cellsOf e := fun t e ⟨k, h⟩ hu => by
  cases k with
  | zero => simp [tyB] at h
  | succ k => simp only [tyB, hu, Bool.and_eq_true, decide_eq_true_eq] at h; exact h.1
theorem trodAll_carry {w' : World} {sp : Nat → Bool} {held : Bool} : ∀ {ts : List TypeId} {vs : List Value} {ds : List (DataW Hh)} {ps : List MemPlace}, DataW.TrodAll enc P w 0 sp held ts vs ds ps →
    (∀ p ∈ ps, w.sameAt w' p) → DataW.TrodAll enc P w' 0 sp held ts vs ds ps
  | [], [], [], _, h, _ => h
  | t :: ts, v :: vs, d :: ds, ps, h, hs => by
    obtain ⟨p, q, ⟨n, h1⟩, h2, rfl⟩ := h
    exact ⟨p, q, ⟨n, DataW.trod_carry n t _ _ h1 fun x hx => hs x (by simp [hx])⟩, trodAll_carry h2 fun x hx => hs x (by simp [hx]), rfl⟩
  | [], [], _ :: _, _, h, _ => by simp [DataW.TrodAll] at h
  | [], _ :: _, [], _, h, _ => by simp [DataW.TrodAll] at h
  | [], _ :: _, _ :: _, _, h, _ => by simp [DataW.TrodAll] at h
  | _ :: _, [], [], _, h, _ => by simp [DataW.TrodAll] at h
  | _ :: _, [], _ :: _, _, h, _ => by simp [DataW.TrodAll] at h
  | _ :: _, _ :: _, [], _, h, _ => by simp [DataW.TrodAll] at h
theorem sameAt_of_old {w' : World} (h : ∀ b, b < w.heap.size → w'.heap[b]? = w.heap[b]?) {p : MemPlace} (hp : p.block < w.heap.size) : w.sameAt w' p := by
  cases p with
  | cell b off => exact World.cell?_of_block (a := ⟨b, off, none⟩) (h b hp)
  | map b => exact h b hp
/-- What the frame asks, where old memory is as it was. -/
theorem post_of_old {f : Func} {s : ChangeSpec} {apart fresh handsOn again : Bool} {w' : World} {args : Array Value} {v : Value} {ds gs : List (DataW Hh)} {before pa pv : List MemPlace}
    (hW : DataW.Whole enc P f.params.toList s.vars apart w args.toList ds gs before)
    (hres : ∀ (b : Nat) (sp : Nat → Bool) (hd : Bool), DataW.TrodAll enc P w' b sp hd f.resultTypes.toList (v.resultList f.resultTypes.size) (s.fn Hh (ds ++ gs)).results [])
    (hargs : ∀ sp : Nat → Bool, (∀ p ∈ before, sp p.block = true) → DataW.TrodAll enc P w' 0 sp true f.params.toList args.toList (s.fn Hh (ds ++ gs)).args pa)
    (hvars : ∀ sp : Nat → Bool, (∀ p ∈ before, sp p.block = true) → DataW.TrodVars enc P w' sp s.vars (s.fn Hh (ds ++ gs)).vars pv)
    (hps : before = pa ++ pv) (hk : w.keptBut w' (· ∈ before)) (hfz : ∀ b o, b < w.heap.size → w'.frozen? ⟨b, o, none⟩ = w.frozen? ⟨b, o, none⟩)
    (hok : ∀ (j : Nat) (t : TypeId) (r : Value), f.resultTypes[j]? = some t → (v.resultList f.resultTypes.size)[j]? = some r → Value.okWide P w' .any 0 t r) :
    s.post enc P f apart fresh handsOn again w args v w' := by
  have hold : ∀ p ∈ before, (fun b => decide (b < w.heap.size)) p.block = true := fun p hp => by simpa using hW.lt p hp
  refine ⟨ds, gs, before, [], pa, pv, hW, hres _ _ _, hargs _ hold, hvars _ hold, World.keptBut_mono (fun p hp => ⟨hp, ?_⟩) hk, fun _ => ?_⟩
  · rw [hps, List.mem_append] at hp
    exact Or.inr hp
  · have hlt := hW.lt
    obtain ⟨_, _, _, _, _, hz, hn⟩ := hW
    refine ⟨hok, _, _, ([] ++ pa) ++ pv, ⟨[] ++ pa, pv, trodAll_append (hargs _ (fun _ _ => rfl)) (hres _ _ _), hvars _ (fun _ _ => rfl), rfl, ?_, ?_⟩, ?_⟩
    · intro b off hp
      have hp' : MemPlace.cell b off ∈ before := by rw [hps]; simpa using hp
      rw [hfz b off (hlt _ hp')]
      exact hz b off hp'
    · intro ha
      have := hn ha
      rw [hps] at this
      simpa using this
    · intro p hp _
      rw [hps]
      simpa using hp
theorem kept_of_old {w' : World} (ho : w'.os = w.os) (hu : w'.output = w.output) (h : ∀ b, b < w.heap.size → w'.heap[b]? = w.heap[b]?) (may : MemPlace → Prop) : w.keptBut w' may := by
  refine ⟨ho, hu, fun i hi => ?_⟩
  rw [h i hi]
  split
  · rename_i c t fr c' t' fr' h1 h2
    rw [h1] at h2
    injection h2 with h2
    injection h2 with h2 h3 h4
    subst h2; subst h3; subst h4
    exact ⟨rfl, rfl, rfl, fun _ _ => rfl⟩
  · rename_i h1 h2
    rw [h1] at h2
    injection h2 with h2
    injection h2 with h2 h3
    exact .inr ⟨h2.symm, h3.symm⟩
  · rfl
/-- THE LAW's ROW: what the abstract run must answer, and what then holds. -/
theorem lawful {E : Env} {call : Fun} {f k tb : Nat} {fn : Func} {s : ChangeSpec} {apart fresh handsOn again : Bool} {base : Nat}
    (hs : CallOk E.P call) (htab : TabC w) (hty : fn.params.toList.all (tyB E.P k) = true) (hres : fn.resultTypes = #[tb]) (htb : E.P.underlying tb = some .bool) (hvars : s.vars = [])
    (hspec : ∀ ds : List (DataW Hh), ds.length = fn.params.size → s.fn Hh ds = { results := [.lit (.bool true)], args := ds, vars := [] })
    (hlaw : ∀ (H : Heap) (lss : List (List Lf)), NoWr H → lss.length = fn.params.size → (∀ (i : Nat) (t : Nat) (l : List Lf), fn.params.toList[i]? = some t → lss[i]? = some l → Shp E.P H k t l) →
      ∃ H', call f (List.zipWith (argV E.P) fn.params.toList lss) H = some (.bool true, H'))
    {args : Array Value} {ds gs : List (DataW Hh)} {before : List MemPlace}
    (hval : ∀ (j : Nat) t v, fn.params[j]? = some t → args[j]? = some v → Value.okWide E.P w .any base t v)
    (hW : DataW.Whole enc E.P fn.params.toList s.vars apart w args.toList ds gs before) :
    Calls E.P f args w fun e w' => ∃ v, e = .returned v ∧ s.post enc E.P fn apart fresh handsOn again w args v w' := by
  have hW' := hW
  obtain ⟨p, q, hA, hV, hpq, hfz, hnd⟩ := hW'
  rw [hvars] at hV
  obtain ⟨rfl, rfl⟩ := trodVars_none hV
  obtain ⟨G, μ, lss, -, hR, hn, hargs, hlen, hdl, hshp⟩ := layAll k fn.params.toList args.toList ds p [] (fun _ => none) hA hty (fun j t v hj hv => hval j t v (by simpa using hj) (by simpa using hv))
    { dom := fun _ _ h => (by cases h), blk := fun _ _ _ h => (by cases h), inj := fun _ _ _ _ _ _ _ h => (by cases h) } (fun id b h => by simp at h)
  simp only [List.nil_append] at hR hn hshp
  obtain ⟨H', hrun⟩ := hlaw G lss hn (by simpa using hlen) hshp
  refine ((hs _ _ _ _ _ hrun).2 μ w args.toList hR ⟨htab, fun p _ ⟨id, L, b, h1, h2, h3, _⟩ => hn id b h2 (by rw [(hR.blk id L b h1 h2).md]; exact h3)⟩ hargs).mono fun e w' ⟨cv, μ', he, hrel, hst⟩ => ?_
  simp only [VRel, WRel, LRel] at hrel
  subst hrel
  refine ⟨_, he, ?_⟩
  have hold : ∀ b, b < w.heap.size → w'.heap[b]? = w.heap[b]? := fun b hb => hst.keep b hb fun ⟨id, L, blk, h1, h2, h3, _⟩ => hn id blk h2 (by rw [(hR.blk id L blk h1 h2).md]; exact h3)
  have hsf := hspec (ds ++ []) (by simpa using hdl)
  have hlt := hW.lt
  rw [List.append_nil] at hpq
  subst hpq
  refine post_of_old (pa := before) (pv := []) hW ?_ ?_ ?_ (by simp) (kept_of_old hst.os hst.output hold _) (fun b o hb => World.frozen?_of_block (a := ⟨b, o, none⟩) (hold b hb)) ?_
  · intro b sp hd
    rw [hsf, hres]
    exact trodAll_mk1 (shut_bool htb true)
  · intro sp hsp
    rw [hsf]
    simp only [List.append_nil]
    have := DataW.TrodAll.respare kidsTy rowsTy (fun t ht => ⟨k, by simpa using List.all_eq_true.1 hty t ht⟩) hA (fun p hp => hsp p hp)
    exact trodAll_carry this fun p hp => sameAt_of_old hold (hlt p hp)
  · intro sp hsp
    rw [hsf, hvars]
    rfl
  · exact ok_one hres (by simp [Value.resultList]) (okWide_bool_mk htb true)
end Go.Ab
