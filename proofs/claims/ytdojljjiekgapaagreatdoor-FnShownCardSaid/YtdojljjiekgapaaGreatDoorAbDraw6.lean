/- Regions that draw their order: whatever order comes up. -/
import Derived.Test.YtdojljjiekgapaaGreatDoorAbDraw5
set_option linter.unusedVariables false
set_option linter.unusedSimpArgs false
namespace Go.Ab
section
variable {E : Env} {call : Fun} {ops : Array Oper} {tr : Nat → St} {μ0 : Mu} {w0 : World} {S : Nat → Prop} {m : Nat} {μ : Mu} {a : Act} {w : World}
theorem Rel.none_ {P : Program} {n : Nat} {μ : Mu} {w : World} : Rel P (restr μ n) (List.replicate n none) w where
  dom := fun id L hl => by simpa using (restr_some.1 hl).1
  blk := fun id L b hl hb => by rw [List.getElem?_replicate] at hb; split at hb <;> simp at hb
  inj := fun i1 L1 b1 i2 L2 b2 hne h1 hb1 => by rw [List.getElem?_replicate] at hb1; split at hb1 <;> simp at hb1
theorem Rel.solo {P : Program} {n id : Nat} {μ : Mu} {L : Loc} {b : Blk} {w : World} (hB : BlkRel P μ L b w) (hμ : μ id = some L) (hdom : ∀ id L, μ id = some L → id < n) : Rel P μ ((List.replicate n none).set id (some b)) w where
  dom := fun id L hl => by simpa using hdom id L hl
  blk := fun i L' b' hl hb => by
    by_cases h : id = i
    · subst h
      rw [List.getElem?_set, if_pos rfl, if_pos (by simpa using hdom _ L hμ)] at hb
      injection hb with hb; injection hb with hb
      rw [hμ] at hl
      injection hl with hl
      subst hb; subst hl
      exact hB
    · rw [List.getElem?_set_ne h, List.getElem?_replicate] at hb
      split at hb <;> simp at hb
  inj := fun i1 L1 b1 i2 L2 b2 hne h1 hb1 h2 hb2 => by
    exfalso
    have one : ∀ (i : Nat) (b' : Blk), ((List.replicate n (none : Option Blk)).set id (some b))[i]? = some (some b') → i = id := by
      intro i b' hb
      apply Classical.byContradiction
      intro h
      rw [List.getElem?_set_ne (Ne.symm h), List.getElem?_replicate] at hb
      split at hb <;> simp at hb
    exact hne ((one i1 b1 hb1).trans (one i2 b2 hb2).symm)
theorem Rel.solo0 {P : Program} {n : Nat} {μ : Mu} {w : World} (hdom : ∀ id L, μ id = some L → id < n) : Rel P μ (List.replicate n none) w where
  dom := fun id L hl => by simpa using hdom id L hl
  blk := fun id L b hl hb => by rw [List.getElem?_replicate] at hb; split at hb <;> simp at hb
  inj := fun i1 L1 b1 i2 L2 b2 hne h1 hb1 => by rw [List.getElem?_replicate] at hb1; split at hb1 <;> simp at hb1
theorem blkAt_solo {n id : Nat} {b : Blk} (h : id < n) : blkAt ((List.replicate n none).set id (some b)) id = some b := by
  unfold blkAt
  rw [List.getElem?_set, if_pos rfl, if_pos (by simpa using h)]
theorem sliceV_heap {τ : Tab} {H Hs H' : Heap} {t : Nat} {x : V} {lo hi : Option V} {v : V} (h : sliceV τ H t x lo hi none = some (v, H'))
    (hel : ∀ (e : Nat) (sa : Option (Nat × Nat)) (len : Nat) (ti : TI), τ t = some ti → ti.kind = .slice e → x = .w (.lf (.sl sa len)) → elemIs H e sa = true → elemIs Hs e sa = true) :
    H' = H ∧ sliceV τ Hs t x lo hi none = some (v, Hs) ∧ ((∃ a, v = .str a) ∨ v = .nilsl ∨ ∃ id r len r' n, x = .w (.lf (.sl (some (id, r)) len)) ∧ v = .sl id r' n) := by
  cases hti : τ t with
  | none => unfold sliceV at h; rw [hti] at h; cases h
  | some ti =>
    unfold sliceV at h ⊢
    rw [hti] at h ⊢
    simp only at h ⊢
    split at h
    · split at h
      · split at h
        · injection h with h; injection h with h1 h2
          exact ⟨h2.symm, by rw [h1], .inl ⟨_, h1.symm⟩⟩
        · cases h
      · cases h
    · rename_i e sa len hk _
      split at h
      rotate_left
      · cases h
      rename_i hc
      rw [if_pos ⟨hel e sa len ti hti hk rfl hc.1, hc.2⟩]
      split at h
      · split at h
        · split at h
          · injection h with h; injection h with h1 h2
            exact ⟨h2.symm, by rw [h1], .inr (.inl h1.symm)⟩
          · injection h with h; injection h with h1 h2
            exact ⟨h2.symm, by rw [h1], .inr (.inr ⟨_, _, _, _, _, rfl, h1.symm⟩)⟩
        · cases h
      · cases h
    · rename_i hm; cases hm
    · cases h
/-- An operation that reads one block. -/
theorem rd_sound (hτ : TabOk E.P E.τ) {call : Fun} {o : Oper} (hrd : rdO o = true) {acc : List (Nat × Nat)} {H H' : Heap} {tm : List V} {a : Act} {v : V} {μ : Mu} {w : World} (ht : TRel μ tm a.tmps) (h : opV E call true tm H o = some (v, H'))
    (hck : match tagOp acc o.op with | none => True | some (x, ty) => chkV H (ev tm x) ty = true) (hdom : ∀ id L, μ id = some L → id < H.length)
    (hblk : ∀ id L b, μ id = some L → blkAt H id = some b → tagX E.τ acc o.op = some b.elem → (∀ t x, o.op = .load t x → ∃ r q, ev tm x = .w (.lf (.p (some (id, r, q))))) → ∃ b', BlkRel E.P μ L b' w ∧ b'.elem = b.elem ∧ (slO o = false → b' = b)) : H' = H ∧ ∃ cv, (execOp a.eval o).run E.P w = .ok (.value cv) w ∧ VRel μ v cv := by
  have val : ∀ {s : Sem Value} {cv : Value} {w' : World}, s.run E.P w = .ok cv w' → (do pure (Next.value (← s)) : Sem Next).run E.P w = .ok (.value cv) w' := by
    intro s cv w' hs
    simp only [Sem.run_bind, hs, Result.andThen_ok, Sem.run_pure]
  have mapH : ∀ {x : Option V}, x.map (·, H) = some (v, H') → x = some v ∧ H' = H := by
    intro x hx
    cases x with
    | none => simp at hx
    | some y => simp at hx; exact ⟨by rw [hx.1], hx.2.symm⟩
  unfold opV at h
  cases ho : o.op with
  | load t x =>
    simp only [ho] at h hck hblk
    split at h
    · rename_i ti id r k hti hev
      obtain ⟨hl, rfl⟩ := mapH h
      have hp := ev_rel ht x
      rw [hev] at hp
      obtain ⟨L, hL, _⟩ := ptr_rel hp
      simp only [tagOp, hev, chkV] at hck
      split at hck
      · rename_i b hb
        simp only [beq_iff_eq] at hck
        obtain ⟨b', hB, _, hsb⟩ := hblk id L b hL hb (by simp only [tagX]; rw [hck]) (fun t2 x2 e => by injection e with _ e; subst e; exact ⟨r, k, hev⟩)
        obtain rfl := hsb (by simp only [slO, ho])
        obtain ⟨cv, hr, hv⟩ := load_sound hτ hti (Rel.solo hB hL hdom) hp (v := v) (by
          unfold loadV at hl ⊢
          rw [hb] at hl
          rw [blkAt_solo (hdom id L hL)]
          exact hl)
        exact ⟨rfl, cv, by simp only [execOp, ho]; exact val hr, hv⟩
      · cases hck
    · cases h
  | indexAddr t x y =>
    simp only [ho] at h hblk
    obtain ⟨hb, rfl⟩ := mapH h
    have hx := ev_rel ht x
    have key : ∃ Hs, Rel E.P μ Hs w ∧ indexAddrV E.τ Hs t (ev tm x) (ev tm y) = some v := by
      unfold indexAddrV at hb
      split at hb
      · cases hb
      rename_i ti hti
      split at hb
      · rename_i e id r len k n hk hevx hevy
        split at hb
        · rename_i hc
          rw [hevx] at hx
          obtain ⟨L, ad, cap, hL, _⟩ := hx
          have he := hc.2.2.1
          unfold elemIs at he
          simp only at he
          split at he
          · rename_i b hbk
            simp only [beq_iff_eq] at he
            obtain ⟨b', hB, _, hsb⟩ := hblk id L b hL hbk (by simp only [tagX, elmT, hti, hk, he]) (fun t2 x2 e => by first | (cases e; done) | (rw [ho] at e; cases e))
            obtain rfl := hsb (by simp only [slO, ho])
            refine ⟨_, Rel.solo hB hL hdom, ?_⟩
            unfold indexAddrV
            simp only [hti, hk, hevx, hevy]
            rw [if_pos ⟨hc.1, hc.2.1, by simp only [elemIs, blkAt_solo (hdom id L hL), he, beq_self_eq_true], hc.2.2.2⟩]
            exact hb
          · cases he
        · cases hb
      · cases hb
    obtain ⟨Hs, hR, hv⟩ := key
    obtain ⟨cv, hr, hv⟩ := indexAddr_sound hτ hR hx (ev_rel ht y) hv
    exact ⟨rfl, cv, by simp only [execOp, ho]; exact val hr, hv⟩
  | slice t x lo hi mx =>
    cases mx with
    | some mx => simp [rdO, ho] at hrd
    | none =>
    simp only [ho] at h hblk
    have hx := ev_rel ht x
    have hmn : optV tm none = none := rfl
    rw [hmn] at h
    unfold sliceW at h
    simp only [if_true] at h
    split at h
    rotate_left
    · cases h
    rename_i yy hyy
    injection h with h
    subst h
    have h := hyy
    -- a heap that holds that one block alone, in which the cut comes out the same
    have key : ∃ Hs, Rel E.P μ Hs w ∧ ∀ (e : Nat) (sa : Option (Nat × Nat)) (len : Nat) (ti : TI), E.τ t = some ti → ti.kind = .slice e → ev tm x = .w (.lf (.sl sa len)) → elemIs H e sa = true → elemIs Hs e sa = true := by
      cases hti : E.τ t with
      | none => exact ⟨_, Rel.solo0 hdom, fun e sa len ti h1 => by cases h1⟩
      | some ti =>
        by_cases hk : ∃ e id r len b, ti.kind = .slice e ∧ ev tm x = .w (.lf (.sl (some (id, r)) len)) ∧ blkAt H id = some b ∧ b.elem = e
        · obtain ⟨e, id, r, len, b, hk, hevx, hbk, he⟩ := hk
          rw [hevx] at hx
          obtain ⟨L, ad, cap, hL, _⟩ := hx
          obtain ⟨b', hB, hel, _⟩ := hblk id L b hL hbk (by simp only [tagX, elmT, hti, hk, he]) (fun t2 x2 e => by first | (cases e; done) | (rw [ho] at e; cases e))
          refine ⟨_, Rel.solo hB hL hdom, fun e2 sa len2 ti2 h1 h2 h3 h4 => ?_⟩
          injection h1 with h1
          subst h1
          rw [hk] at h2
          injection h2 with h2
          subst h2
          rw [hevx] at h3
          injection h3 with h3; injection h3 with h3; injection h3 with h3
          subst h3
          simp only [elemIs, blkAt_solo (hdom id L hL), hel, he, beq_self_eq_true]
        · refine ⟨_, Rel.solo0 hdom, fun e sa len ti2 h1 h2 h3 h4 => ?_⟩
          injection h1 with h1
          subst h1
          cases sa with
          | none => rfl
          | some p =>
            exfalso
            obtain ⟨id, r⟩ := p
            unfold elemIs at h4
            simp only at h4
            split at h4
            · rename_i b hbk
              exact hk ⟨e, id, r, len, b, h2, h3, hbk, by simpa using h4⟩
            · cases h4
    obtain ⟨Hs, hR, hes⟩ := key
    obtain ⟨rfl, hv, hshape⟩ := sliceV_heap h hes
    refine ⟨rfl, ?_⟩
    obtain ⟨cv, μ', hr, hv', hst⟩ := slice_sound hτ hR hx (optV_rel ht lo) (optV_rel ht hi) (optV_rel ht none) hv
    have hvr : VRel μ v cv := by
      rcases hshape with ⟨a, rfl⟩ | rfl | ⟨id, r, len, r', n, hxe, rfl⟩
      · exact hv'
      · exact hv'
      · rw [hxe] at hx
        obtain ⟨L, ad, cap, hL, _⟩ := hx
        obtain ⟨L', ad', cap', hL', hrest⟩ := hv'
        have := hst.ext id L hL
        rw [hL'] at this
        injection this with this
        subst this
        exact ⟨L', ad', cap', hL, hrest⟩
    refine ⟨cv, ?_, hvr⟩
    simp only [execOp, ho]
    refine val ?_
    have hnarr : ∃ d, E.P.underlying t = some d ∧ ∀ n e, d ≠ .array n e := by
      unfold sliceV at hv
      split at hv
      · cases hv
      rename_i ti hti
      have hkind := (hτ t ti hti).kind
      split at hv
      · rename_i hk _ _; rw [hk] at hkind; exact ⟨_, hkind, fun n e hh => by cases hh⟩
      · rename_i hk _ _; rw [hk] at hkind; exact ⟨_, hkind, fun n e hh => by cases hh⟩
      · rename_i hk _ _; rw [hk] at hkind; exact ⟨_, hkind, fun n e hh => by cases hh⟩
      · cases hv
    obtain ⟨d, hd, hne⟩ := hnarr
    unfold Instr.sliceAt
    rw [Sem.run_bind, run_underlying hd w]
    simp only [Result.andThen_ok]
    cases d <;> first
      | exact hr
      | exact absurd rfl (hne _ _)
  | _ => simp [rdO, ho] at hrd
/-- The variables that are read, where an operation stands. -/
theorem Inv.tabC (hI : Inv E ops tr μ0 w0 S m μ a w) (hTb : TabR μ0 (tr 0).heap w0) : TabC w := fun p hp => by
  rw [hI.keep p.1 (hTb.1.lt hp) (hTb.2 p hp)]; exact hTb.1 p hp
theorem Inv.tabAt (hI : Inv E ops tr μ0 w0 S m μ a w) (hD : DS E ops) (hT : Trc E call ops tr) (hTb : TabR μ0 (tr 0).heap w0) {j : Nat} {o : Oper} (ho : ops[j]? = some o) (hj : ¬ S j) (hd : ∀ i ∈ direct o, S i) (ht : ftO o = true) :
    TabR (restr μ (tr j).heap.length) (tr j).heap w := ⟨hI.tabC hTb, fun p hp ⟨id, L, b, hl, hb, hwr, hLb⟩ => by
  obtain ⟨hid, hμ⟩ := restr_some.1 hl
  obtain ⟨c, hc, heq, _⟩ := hI.cutAt hD hT ho hj hd ht hid
  rw [hb] at heq
  have := hI.own id L c b hμ hc heq hwr (by rw [hLb]; exact hTb.1.lt hp)
  rw [hLb] at this
  exact hTb.2 p hp this⟩
/-- The operation that comes next. -/
theorem Inv.next (hI : Inv E ops tr μ0 w0 S m μ a w) (hD : DS E ops) (hT : Trc E call ops tr) (hτ : TabOk E.P E.τ) (hcall : CallOk E.P call) (hTb : TabR μ0 (tr 0).heap w0) {j : Nat} {o : Oper} (ho : ops[j]? = some o) (hj : ¬ S j) (hd : ∀ i ∈ direct o, S i)
    {K : Act → World → Prop} {Q : Exit → Act → World → Prop} (hK : ∀ μ' a' w', a'.defers = a.defers → Inv E ops tr μ0 w0 (fun i => S i ∨ i = j) (nextM E o j m) μ' a' w' → K a' w') : wpOp E.P ops Q j K a w := by
  have hlook := hI.look hD hT ho hj hd
  have hdef : ∀ cv, (a.put o.dst cv).defers = a.defers := fun cv => by cases o.dst <;> rfl
  unfold wpOp
  simp only [ho]
  rcases hT.one ho with ⟨hw, htm, hh⟩ | ⟨hw, hck, v, hop, htm⟩
  · rw [← lookT_want] at hw
    rw [want_sound hlook hw]
    simp only [Bool.false_eq_true, if_false]
    refine hK (nextMu tr j (restr μ (tr j).heap.length) μ) _ _ (hdef undef) ?_
    have hv : VRel (restr μ (tr j).heap.length) (.tup []) undef := ⟨[], rfl, All2.nil⟩
    cases ht : ftO o with
    | true =>
      have hst' : Stp E.P (restr μ (tr j).heap.length) (tr j).heap w (restr μ (tr j).heap.length) (tr (j + 1)).heap w := by
        have := Stp.refl (hI.relAt hD hT ho hj hd ht)
        rw [hh]; exact this
      exact hI.step hD hT ho hj hd (Eff.of_touch ht hst') htm hv
    | false => exact hI.step hD hT ho hj hd (Eff.of_rd ht hh) htm hv
  · have hw' := hw
    rw [← lookT_want] at hw'
    rw [want_sound hlook hw']
    simp only [if_true]
    left
    have hcong : opV E call true (lookT ops o (tr j).tmps) (tr j).heap o = some (v, (tr (j + 1)).heap) := by
      rw [← opV_congr o fun x hx => lookT_ev o _ x hx]; exact hop
    cases hrd : rdO o with
    | true =>
      have hdf : difO E (ev (tr j).tmps) o.op = true := by unfold chkO at hck; rw [Bool.and_eq_true] at hck; exact hck.2
      obtain ⟨hh, cv, hrun, hv⟩ := rd_sound (acc := tagsL E.τ ops.toList []) (w := w) hτ hrd hlook hcong (by
        unfold chkO at hck
        rw [Bool.and_eq_true] at hck
        replace hck := hck.1
        cases htg : tagOp (tagsL E.τ ops.toList []) o.op with
        | none => trivial
        | some q =>
          obtain ⟨x, ty⟩ := q
          rw [htg] at hck
          simp only at hck ⊢
          have hx : x ∈ o.op.operands := by
            unfold tagOp at htg
            cases hoo : o.op <;> rw [hoo] at htg <;> simp at htg <;> simp [Op.operands, htg.1]
          rw [← lookT_ev o _ x hx]
          exact hck) (fun id L hl => (restr_some.1 hl).1) (fun id L b hl hb htg hidx => by
        obtain ⟨hid, hμ⟩ := restr_some.1 hl
        have hjn : j < ops.size := (Array.getElem?_eq_some_iff.1 ho).1
        obtain ⟨c, b', hc, heq, hel, hsl, hor⟩ := hI.cutRd hD hT ho hj hd hrd (blkAt_some hb) ((tagE_rd hrd).trans htg) rfl hdf (fun t2 x2 e => by obtain ⟨r, q, hq⟩ := hidx t2 x2 e; exact ⟨r, q, by rw [lookT_ev o _ x2 (by rw [e]; simp [Op.operands])]; exact hq⟩)
        refine ⟨b', ?_, hel, hsl⟩
        rcases hor with hcj | ⟨hjc, _, hs⟩
        · have := hI.blk id L b' c hμ hc heq c hc.lt (Nat.le_refl _) (Sm.refl _ _)
          have he : Ext (restr μ (tr c).heap.length) (restr μ (tr j).heap.length) := restr_mono (hT.len hcj (by omega)) fun _ _ _ h => h
          exact this.of_any he
        · exact hI.blk id L b' c hμ hc heq j hid hjc hs)
      unfold Oper.wp
      rw [hrun]
      exact hK _ _ _ (hdef _) (hI.step hD hT ho hj hd (Eff.of_rd (rd_ft hrd) hh) htm hv)
    | false =>
      cases ht : tchO o with
      | true =>
        have hft : ftO o = true := by unfold ftO; rw [ht, hrd]; rfl
        refine opWp_sound hτ hcall (hI.relAt hD hT ho hj hd hft) (hI.tabAt hD hT hTb ho hj hd hft) hlook hcong fun cv w' μ1 hv hst => ?_
        exact hK _ _ _ (hdef _) (hI.step hD hT ho hj hd (Eff.of_touch hft hst) htm hv)
      | false =>
        have hft : ftO o = false := by unfold ftO; rw [ht]; rfl
        obtain ⟨D, hD', hop2⟩ := opV_pure (H2 := List.replicate (tr j).heap.length none) ht hcong (by simp)
        refine opWp_sound hτ hcall Rel.none_ (hI.tabC hTb).none_ hlook hop2 fun cv w' μ1 hv hst => ?_
        exact hK _ _ _ (hdef _) (hI.step hD hT ho hj hd (Eff.of_pure hft hD' hst) htm hv)
/-- At the end. -/
theorem Inv.done (hI : Inv E ops tr μ0 w0 S m μ a w) (hD : DS E ops) (hT : Trc E call ops tr) (hR0 : Rel E.P μ0 (tr 0).heap w0) (hall : ∀ j, j < ops.size → S j) :
    ∃ μ', TRel μ' (tr ops.size).tmps a.tmps ∧ Stp E.P μ0 (tr 0).heap w0 μ' (tr ops.size).heap w := by
  have hnw : NW E ops m ops.size := by
    intro i o h1 h2 hi
    cases hw : wrtO E o with
    | false => rfl
    | true => have := (hI.wm.2 i o hi hw).1 (hall i h2); omega
  have hcut : ∀ {id : Nat}, id < (tr ops.size).heap.length → ∃ c, Cut ops tr m id c ∧ (tr ops.size).heap[id]? = (tr c).heap[id]? := by
    intro id hid
    obtain ⟨c, hcb, hc⟩ := Cut.ex (ops := ops) (tr := tr) hI.wm.1 (Nat.le_refl _) hid
    exact ⟨c, hc, hT.nw hc.top (Nat.le_refl _) (fun i o h1 h2 hi => hnw i o (Nat.le_trans hc.le h1) h2 hi) hc.lt⟩
  have hdom : ∀ id L, μ id = some L → id < (tr ops.size).heap.length := by
    intro id L hl
    rcases hI.dom id L hl with h | ⟨i, hSi, h3, h4⟩
    · exact Nat.lt_of_lt_of_le h (hT.len (Nat.zero_le _) (Nat.le_refl _))
    · obtain ⟨oi, hoi, _⟩ := hI.down i hSi
      have hin : i < ops.size := (Array.getElem?_eq_some_iff.1 hoi).1
      exact Nat.lt_of_lt_of_le h4 (hT.len hin (Nat.le_refl _))
  have hlen0 := hT.len (Nat.zero_le ops.size) (Nat.le_refl _)
  refine ⟨μ, ⟨by rw [hT.tlen (Nat.le_refl _)]; simp [hI.tsz], ?_⟩, ?_⟩
  · intro t v cv hv hcv
    rw [Array.getElem?_toList] at hcv
    have hcv' : a.tmps.getD t undef = cv := by simp [Array.getD_eq_getD_getElem?, hcv]
    have hv' : (tr ops.size).tmps.getD t .bad = v := by rw [List.getD_eq_getElem?_getD, hv]; rfl
    rw [← hcv', ← hv']
    by_cases hex : ∃ (i : Nat) (oi : Oper), ops[i]? = some oi ∧ oi.dst = some t
    · obtain ⟨i, oi, hi, hdi⟩ := hex
      have hin : i < ops.size := (Array.getElem?_eq_some_iff.1 hi).1
      rw [hT.tsame (show i + 1 ≤ ops.size from hin) (Nat.le_refl _) t fun k ok h3 h4 hk => hD.dst i k oi ok t (by omega) hi hk hdi]
      exact (hI.tnew t i oi (hall i hin) hi hdi).ext (restr_ext _ _)
    · rw [hT.tsame (Nat.zero_le _) (Nat.le_refl _) t fun k ok _ _ hk hd => hex ⟨k, ok, hk, hd⟩]
      exact (hI.told t fun k ok _ hk hd => hex ⟨k, ok, hk, hd⟩).ext (restr_ext _ _)
  · refine ⟨hI.ext, ?_, ⟨hdom, ?_, ?_⟩, hlen0, hI.size, hI.keep, ?_, hI.frs, ?_, ?_, hI.os, hI.tape, hI.output⟩
    · intro id L hl
      rcases Nat.lt_or_ge id (tr 0).heap.length with h | h
      · exact .inl (hI.dom0 id L hl h)
      · exact .inr h
    · intro id L b hl hb
      obtain ⟨c, hc, heq⟩ := hcut (hdom id L hl)
      rw [heq] at hb
      exact (hI.blk id L b c hl hc hb c hc.lt (Nat.le_refl _) (Sm.refl _ _)).of_any (restr_ext _ _)
    · intro i1 L1 b1 i2 L2 b2 hne h1 hb1 h2 hb2 hw hz
      obtain ⟨c1, hc1, heq1⟩ := hcut (hdom i1 L1 h1)
      obtain ⟨c2, hc2, heq2⟩ := hcut (hdom i2 L2 h2)
      rw [heq1] at hb1
      rw [heq2] at hb2
      exact hI.inj i1 L1 b1 c1 i2 L2 b2 c2 hne h1 hc1 hb1 h2 hc2 hb2 hw hz
    · rintro b ⟨id, L, blk, hl, hb, hw, rfl⟩ hlt
      obtain ⟨c, hc, heq⟩ := hcut (hdom id L hl)
      rw [heq] at hb
      exact hI.own id L c blk hl hc hb hw hlt
    · intro id h0 hn
      have : ∀ k, k ≤ ops.size → (tr k).heap[id]? = (tr 0).heap[id]? := by
        intro k
        induction k with
        | zero => intro _; rfl
        | succ k ih =>
          intro hk
          have hok := Array.getElem?_eq_getElem (show k < ops.size by omega)
          rw [← ih (by omega)]
          cases hw : wrtO E ops[k] with
          | true => exact hI.un0 id h0 hn k _ (hall k (by omega)) hok hw
          | false =>
            obtain ⟨D, hD'⟩ := hT.nw1 hok hw
            rw [hD', List.getElem?_append_left]
            have := hT.len (Nat.zero_le k) (by omega)
            omega
      exact this _ (Nat.le_refl _)
    · intro id L b hl0 hb
      have hl := hI.ext id L hl0
      obtain ⟨c, hc, heq⟩ := hcut (hdom id L hl)
      rw [heq] at hb
      exact hI.rev id L c b hl hl0 hc hb
/-- At the beginning. -/
theorem Inv.start (hR : Rel E.P μ0 (tr 0).heap w0) (ht : TRel μ0 (tr 0).tmps a.tmps) (hT : Trc E call ops tr) {w1 : World} (hw : w1.heap = w0.heap) (hos : w1.os = w0.os ∧ w1.tape = w0.tape ∧ w1.output = w0.output) :
    ∃ m, Inv E ops tr μ0 w0 (fun _ => False) m μ0 a w1 := by
  have hr : Ext μ0 (restr μ0 (tr 0).heap.length) := fun id L hl => restr_some.2 ⟨hR.dom id L hl, hl⟩
  have hB : ∀ {L : Loc} {b : Blk}, BlkRel E.P μ0 L b w0 → BlkRel E.P μ0 L b w1 := by
    intro L b h
    by_cases hz : L.md = .z
    · exact h.of_z hz
    · exact h.of_block (Ext.refl _) (by rw [hw])
  have hcut0 : ∀ {id c : Nat}, id < (tr 0).heap.length → Cut ops tr 0 id c → c = 0 := by
    intro id c hid hc
    rcases Nat.eq_zero_or_pos c with h | h
    · exact h
    · have := hc.least 0 (Nat.le_refl _) h; omega
  refine ⟨0, ⟨fun j h => h.elim, ⟨Nat.zero_le _, fun i o _ _ => ⟨fun h => h.elim, fun h => by omega⟩⟩, by rw [ht.len]; simp, ?_, fun t i o h => h.elim, fun id L hl => .inl (hR.dom id L hl), fun id L hl _ => hl, ?_, ?_, fun i _ id _ _ k o h => h.elim,
    fun id _ _ k o h => h.elim, Ext.refl _, by rw [hw]; exact Nat.le_refl _, fun b hb _ => by rw [hw], ?_, ?_, ?_, hos.1, hos.2.1, hos.2.2⟩⟩
  · intro t _
    exact (ev_rel ht (.tmp t)).ext hr
  · intro id L b c hl hc hb c' h1 h2 _
    have hc0 := hcut0 (hR.dom id L hl) hc
    subst hc0
    have : c' = 0 := by omega
    subst this
    exact (hB (hR.blk id L b hl hb)).of_any hr
  · intro i1 L1 b1 c1 i2 L2 b2 c2 hne h1 hc1 hb1 h2 hc2 hb2
    have e1 := hcut0 (hR.dom i1 L1 h1) hc1
    have e2 := hcut0 (hR.dom i2 L2 h2) hc2
    subst e1 e2
    exact hR.inj i1 L1 b1 i2 L2 b2 hne h1 hb1 h2 hb2
  · intro id L c b hl hc hb hwr hlt
    have e := hcut0 (hR.dom id L hl) hc
    subst e
    exact ⟨id, L, b, hl, hb, hwr, rfl⟩
  · intro id L hl hn; rw [hl] at hn; cases hn
  · intro id L c b hl _ hc hb
    have e := hcut0 (hR.dom id L hl) hc
    subst e
    exact ⟨b, hb⟩
/-- The flags of what is listed. -/
def Lst (n : Nat) (listed : Array Bool) (S : Nat → Prop) : Prop := listed.size = n ∧ ∀ i, i < n → (listed.getD i false = true ↔ S i)
theorem wpAny_inv (hD : DS E ops) (hT : Trc E call ops tr) (hτ : TabOk E.P E.τ) (hcall : CallOk E.P call) (hR0 : Rel E.P μ0 (tr 0).heap w0) (hTb : TabR μ0 (tr 0).heap w0) {Q : Exit → Act → World → Prop} {ds : List Deferred}
    (hQ : ∀ μ' a' w', TRel μ' (tr ops.size).tmps a'.tmps → a'.defers = ds → Stp E.P μ0 (tr 0).heap w0 μ' (tr ops.size).heap w' → Q .normal a' w') :
    ∀ (fuel : Nat) (listed : Array Bool) (S : Nat → Prop) (m : Nat) (μ : Mu) (a : Act) (w : World), Lst ops.size listed S → (∀ k : Nat, (∀ l : List Nat, (∀ i ∈ l, i < ops.size ∧ ¬ S i) → l.Nodup → l.length ≤ fuel)) → a.defers = ds → Inv E ops tr μ0 w0 S m μ a w → wpAny E.P .any ops Q fuel listed a w := by
  have hready : ∀ (listed : Array Bool) (S : Nat → Prop), Lst ops.size listed S → ∀ i, i ∈ Region.ready .any ops listed ↔ ∃ o, ops[i]? = some o ∧ ¬ S i ∧ ∀ k ∈ direct o, S k := by
    intro listed S hL i
    unfold Region.ready
    rw [List.mem_filter, List.mem_range]
    constructor
    · rintro ⟨hi, hc⟩
      simp only [Bool.and_eq_true, Bool.not_eq_true'] at hc
      obtain ⟨h1, h2⟩ := hc
      have ho := Array.getElem?_eq_getElem hi
      refine ⟨_, ho, fun hS => ?_, fun k hk => ?_⟩
      · have := (hL.2 i hi).2 hS
        have hsz : i < listed.size := by rw [hL.1]; exact hi
        rw [Array.getD_eq_getD_getElem?, Array.getElem?_eq_getElem hsz] at h1 this
        simp at h1 this
        rw [h1] at this; cases this
      · rw [ho] at h2
        simp only [Option.map_some, Option.getD_some] at h2
        rw [Array.all_eq_true_iff_forall_mem] at h2
        unfold direct at hk
        obtain ⟨e, he, hek⟩ := List.mem_filterMap.1 hk
        split at hek
        · rename_i hb
          injection hek with hek
          subst hek
          have := h2 e (by simpa using he)
          simp only [hb, Bool.not_true, Bool.false_or] at this
          refine (hL.2 e.on ?_).1 this
          have := hD.back i _ ho e.on hk
          omega
        · cases hek
    · rintro ⟨o, ho, hS, hd⟩
      have hi : i < ops.size := (Array.getElem?_eq_some_iff.1 ho).1
      have hsz : i < listed.size := by rw [hL.1]; exact hi
      refine ⟨hi, ?_⟩
      simp only [Bool.and_eq_true, Bool.not_eq_true']
      refine ⟨?_, ?_⟩
      · cases hb : listed.getD i true with
        | false => rfl
        | true =>
          exfalso
          refine hS ((hL.2 i hi).1 ?_)
          rw [Array.getD_eq_getD_getElem?, Array.getElem?_eq_getElem hsz] at hb ⊢
          simpa using hb
      · rw [ho]
        simp only [Option.map_some, Option.getD_some]
        rw [Array.all_eq_true_iff_forall_mem]
        intro e he
        cases hb : Region.binds .any e with
        | false => simp
        | true =>
          simp only [Bool.not_true, Bool.false_or]
          have hk : e.on ∈ direct o := List.mem_filterMap.2 ⟨e, by simpa using he, by rw [hb]; rfl⟩
          refine (hL.2 e.on ?_).2 (hd e.on hk)
          have := hD.back i o ho e.on hk
          omega
  have hempty : ∀ (listed : Array Bool) (S : Nat → Prop) (m : Nat) (μ : Mu) (a : Act) (w : World), Lst ops.size listed S → Inv E ops tr μ0 w0 S m μ a w → Region.ready .any ops listed = [] → ∀ j, j < ops.size → S j := by
    intro listed S m μ a w hL hI he j
    induction j using Nat.strongRecOn with
    | _ j ih =>
      intro hj
      apply Classical.byContradiction
      intro hS
      have ho := Array.getElem?_eq_getElem hj
      have : j ∈ Region.ready .any ops listed := (hready listed S hL j).2 ⟨_, ho, hS, fun k hk => ih k (hD.back j _ ho k hk) (by have := hD.back j _ ho k hk; omega)⟩
      rw [he] at this
      cases this
  intro fuel
  induction fuel with
  | zero =>
    intro listed S m μ a w hL hf hds hI
    have hall : ∀ j, j < ops.size → S j := by
      intro j hj
      apply Classical.byContradiction
      intro hS
      have := hf 0 [j] (by simp [hj, hS]) (by simp)
      simp at this
    refine ⟨?_, ?_⟩
    · apply List.eq_nil_iff_forall_not_mem.2
      intro i hi
      obtain ⟨o, ho, hS, _⟩ := (hready listed S hL i).1 hi
      exact hS (hall i (Array.getElem?_eq_some_iff.1 ho).1)
    · obtain ⟨μ', ht, hs⟩ := hI.done hD hT hR0 hall
      exact hQ μ' a w ht hds hs
  | succ fuel ih =>
    intro listed S m μ a w hL hf hds hI
    refine ⟨fun he => ?_, ?_⟩
    · obtain ⟨μ', ht, hs⟩ := hI.done hD hT hR0 (hempty listed S m μ a w hL hI he)
      exact hQ μ' a w ht hds hs
    · intro i hi
      obtain ⟨o, ho, hS, hd⟩ := (hready listed S hL i).1 hi
      have hin : i < ops.size := (Array.getElem?_eq_some_iff.1 ho).1
      refine hI.next hD hT hτ hcall hTb ho hS hd fun μ' a' w' hd' hI' => ?_
      refine ih _ (fun k => S k ∨ k = i) _ μ' a' w' ⟨by simp [hL.1], fun k hk => ?_⟩ ?_ (hd'.trans hds) hI'
      · have hks : k < listed.size := by rw [hL.1]; exact hk
        by_cases hki : k = i
        · subst hki
          rw [Array.getD_eq_getD_getElem?, Array.getElem?_setIfInBounds_self_of_lt hks]
          simp
        · rw [Array.getD_eq_getD_getElem?, Array.getElem?_setIfInBounds_ne (Ne.symm hki), ← Array.getD_eq_getD_getElem?, hL.2 k hk]
          exact ⟨.inl, fun h => h.resolve_right hki⟩
      · intro _ l hl hnd
        have := hf 0 (i :: l) (by
          intro x hx
          rcases List.mem_cons.1 hx with rfl | hx
          · exact ⟨hin, hS⟩
          · exact ⟨(hl x hx).1, fun h => (hl x hx).2 (.inl h)⟩) (List.nodup_cons.2 ⟨fun h => (hl i h).2 (.inr rfl), hnd⟩)
        simp at this
        exact this
/-- THE LAW. -/
theorem draw_sound (hm : E.P.follows .mixedOrders = true) (hτ : TabOk E.P E.τ) (hcall : CallOk E.P call) (h : drawB E ops = true) : DrawOk E call ops := by
  intro id s s' μ a w hops hR hTb ht
  have hD := DS.of_check h
  obtain ⟨tr, h0, h1, h2⟩ := trace ops.toList s s' hops
  have hT : Trc E call ops tr := ⟨fun j o ho => h2 j o (by rw [Array.getElem?_toList]; exact ho)⟩
  have h1' : tr ops.size = s' := by rw [← Array.length_toList]; exact h1
  subst h0
  obtain ⟨m, hI⟩ := Inv.start (E := E) (call := call) (ops := ops) (tr := tr) (w1 := { w with drawn := w.drawn + 1 }) hR ht hT rfl ⟨rfl, rfl, rfl⟩
  refine wp_region_any hm ?_
  refine wpAny_inv hD hT hτ hcall hR hTb (ds := a.defers) (fun μ' a' w' ht' hd' hs' => ⟨rfl, μ', by rw [← h1']; exact ht', hd', by rw [← h1']; exact hs'⟩) ops.size _ (fun _ => False) m μ a _ ⟨by simp, fun i hi => by simp [Array.getD_eq_getD_getElem?, hi]⟩ ?_ rfl hI
  intro _ l hl hnd
  have : l.length ≤ (List.range ops.size).length := List.Nodup.length_le_of_subset hnd fun x hx => List.mem_range.2 (hl x hx).1
  simpa using this
/-- What is asked of code, by program. -/
def codeB (E : Env) : Code → Bool
  | .region _ ops true => drawB E ops
  | .seq a b => codeB E a && codeB E b
  | .cond _ a b => codeB E a && codeB E b
  | .block _ c => codeB E c
  | .loop c => codeB E c
  | _ => true
theorem codeB_draws (hm : E.P.follows .mixedOrders = true) (hτ : TabOk E.P E.τ) (hcall : CallOk E.P call) : ∀ (c : Code), codeB E c = true → codeDraws (DrawOk E call) c
  | .region id ops true, h => draw_sound hm hτ hcall h
  | .region id ops false, h => trivial
  | .seq a b, h => by
    simp only [codeB, Bool.and_eq_true] at h
    exact ⟨codeB_draws hm hτ hcall a h.1, codeB_draws hm hτ hcall b h.2⟩
  | .cond _ a b, h => by
    simp only [codeB, Bool.and_eq_true] at h
    exact ⟨codeB_draws hm hτ hcall a h.1, codeB_draws hm hτ hcall b h.2⟩
  | .block _ c, h => codeB_draws hm hτ hcall c h
  | .loop c, h => codeB_draws hm hτ hcall c h
  | .skip, _ => trivial
  | .label _, _ => trivial
  | .exit _, _ => trivial
  | .ret, _ => trivial
  | .rangeFunc .., _ => trivial
  | .scope _, _ => trivial
  | .goto _, _ => trivial
  | .refuse _, _ => trivial
def progB (E : Env) (fs : List Nat) : Bool := fs.all fun f => match E.P.funcs[f]? with
  | none => false
  | some fn => !(fn.name == "runtime.NumGoroutine") && (match fn.body with | none => false | some c => codeB E c)
/-- ALL OF IT: what the abstract run answers, the machine answers. -/
theorem sound (hm : E.P.follows .mixedOrders = true) (hτ : TabOk E.P E.τ) (hx : ExtOk E) (fs : List Nat) (hok : ∀ f, E.ok f = true → f ∈ fs) (h : progB E fs = true) (d : Nat) : CallOk E.P (runF E d) := by
  have key : ∀ (f : Nat) (fn : Func), E.ok f = true → E.P.funcs[f]? = some fn → (fn.name == "runtime.NumGoroutine") = false ∧ ∀ c, fn.body = some c → codeB E c = true := by
    intro f fn h1 h2
    have := List.all_eq_true.1 h f (hok f h1)
    rw [h2] at this
    simp only [Bool.and_eq_true, Bool.not_eq_true'] at this
    refine ⟨this.1, fun c hc => ?_⟩
    have h3 := this.2
    rw [hc] at h3
    exact h3
  exact runF_sound hτ hx (fun f fn h1 h2 => (key f fn h1 h2).1) (fun call hcall f fn c h1 h2 h3 => codeB_draws hm hτ hcall c ((key f fn h1 h2).2 c h3)) d
end
end Go.Ab
