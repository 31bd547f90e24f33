/- Regions that draw their order: one operation more. -/
import Derived.Test.YtdojljjiekgapaaGreatDoorAbDraw4
set_option linter.unusedVariables false
set_option linter.unusedSimpArgs false
namespace Go.Ab
section
variable {E : Env} {call : Fun} {ops : Array Oper} {tr : Nat → St} {μ0 : Mu} {w0 : World} {S : Nat → Prop} {m : Nat} {μ : Mu} {a : Act} {w : World}
def nextM (E : Env) (o : Oper) (j m : Nat) : Nat := if wrtO E o = true then j + 1 else m
def nextMu (tr : Nat → St) (j : Nat) (μ1 μ : Mu) : Mu := fun id => if id < (tr (j + 1)).heap.length then μ1 id else μ id
theorem getD_set (tm : List V) (d : Nat) (v : V) (t : Nat) : (tm.set d v).getD t .bad = if d = t ∧ t < tm.length then v else tm.getD t .bad := by
  simp only [List.getD_eq_getElem?_getD, List.getElem?_set]
  by_cases h : d = t
  · subst h
    by_cases hl : d < tm.length
    · simp [hl]
    · simp [hl, List.getElem?_eq_none (Nat.le_of_not_lt hl)]
  · simp [h]
theorem Act.getD_put (a : Act) (d : Option Tmp) (cv : Value) (t : Nat) : (a.put d cv).tmps.getD t undef = if d = some t ∧ t < a.tmps.size then cv else a.tmps.getD t undef := by
  cases d with
  | none => simp [Act.put]
  | some d =>
    simp only [Act.put, Array.getD_eq_getD_getElem?, Option.some.injEq]
    by_cases h : d = t
    · subst h
      by_cases hl : d < a.tmps.size
      · simp [hl]
      · simp [hl]
    · simp [h, Array.getElem?_setIfInBounds_ne h]
theorem Inv.step (hI : Inv E ops tr μ0 w0 S m μ a w) (hD : DS E ops) (hT : Trc E call ops tr) {j : Nat} {o : Oper} (ho : ops[j]? = some o) (hj : ¬ S j) (hd : ∀ i ∈ direct o, S i) {μ1 : Mu} {w' : World} {v : V} {cv : Value}
    (hE : Eff E ops tr μ w j o μ1 w') (htm : (tr (j + 1)).tmps = putT (tr j).tmps o.dst v) (hv : VRel μ1 v cv) :
    Inv E ops tr μ0 w0 (fun i => S i ∨ i = j) (nextM E o j m) (nextMu tr j μ1 μ) (a.put o.dst cv) w' := by
  have hjn : j < ops.size := (Array.getElem?_eq_some_iff.1 ho).1
  have hlen1 := hT.len1 hjn
  have hlen0 : (tr 0).heap.length ≤ (tr j).heap.length := hT.len (Nat.zero_le j) (by omega)
  -- the new places go on with the old ones
  have hext : Ext μ (nextMu tr j μ1 μ) := by
    intro id L hl
    unfold nextMu
    split
    · rename_i h1
      rcases Nat.lt_or_ge id (tr j).heap.length with h2 | h2
      · exact hE.ext id L (restr_some.2 ⟨h2, hl⟩)
      · exact (hI.notnew hT hjn hj hl h2 h1).elim
    · exact hl
  have hext1 : Ext μ1 (nextMu tr j μ1 μ) := fun id L hl => by
    unfold nextMu
    rw [if_pos (hE.dom id L hl)]; exact hl
  have hval : VRel (restr (nextMu tr j μ1 μ) (tr (j + 1)).heap.length) v cv := hv.ext fun id L hl => restr_some.2 ⟨hE.dom id L hl, hext1 id L hl⟩
  have hlow : ∀ {id : Nat} {L : Loc}, id < (tr (j + 1)).heap.length → nextMu tr j μ1 μ id = some L → μ1 id = some L := by
    intro id L h1 h2
    unfold nextMu at h2
    rw [if_pos h1] at h2; exact h2
  have hhigh : ∀ {id : Nat} {L : Loc}, ¬ id < (tr (j + 1)).heap.length → nextMu tr j μ1 μ id = some L → μ id = some L := by
    intro id L h1 h2
    unfold nextMu at h2
    rw [if_neg h1] at h2; exact h2
  have hmle : nextM E o j m ≤ ops.size := by
    unfold nextM; split
    · omega
    · exact hI.wm.1
  -- cuts
  have hcutW : wrtO E o = true → m ≤ j := fun hw => (hI.cuts hD ho hj hd (wrt_ft hw)).2.2.2 hw
  have hcutHigh : ∀ {id c : Nat}, ¬ id < (tr (j + 1)).heap.length → Cut ops tr (nextM E o j m) id c → Cut ops tr m id c := by
    intro id c h1 hc
    unfold nextM at hc
    split at hc
    · rename_i hw
      have := hcutW hw
      refine ⟨by have := hc.le; omega, hc.top, hc.lt, fun c' h2 h3 => ?_⟩
      rcases Nat.lt_or_ge c' (j + 1) with h4 | h4
      · have := hT.len (show c' ≤ j + 1 by omega) (by omega); omega
      · exact hc.least c' h4 h3
    · exact hc
  have hcutNew : ∀ {id c : Nat}, wrtO E o = false → (tr j).heap.length ≤ id → id < (tr (j + 1)).heap.length → Cut ops tr m id c → (tr c).heap[id]? = (tr (j + 1)).heap[id]? ∧ j + 1 ≤ c := by
    intro id c hwo h1 h2 hc
    have hge : j + 1 ≤ c := by
      rcases Nat.lt_or_ge c (j + 1) with h3 | h3
      · have := hT.len (show c ≤ j by omega) (by omega); have := hc.lt; omega
      · exact h3
    refine ⟨?_, hge⟩
    rcases Nat.lt_or_ge (j + 1) m with h3 | h3
    · have hcm : c = m := by
        rcases Nat.lt_or_ge m c with h4 | h4
        · have := hc.least m (Nat.le_refl _) h4
          have := hT.len (show j + 1 ≤ m by omega) hI.wm.1
          omega
        · have := hc.le; omega
      subst hcm
      have chain : ∀ k, j + 1 ≤ k → k ≤ c → (tr k).heap[id]? = (tr (j + 1)).heap[id]? := by
        intro k hk1
        induction hk1 with
        | refl => intro _; rfl
        | @step k hk1 ih =>
          intro hk2
          have hk1' : j + 1 ≤ k := hk1
          have hkn : k < ops.size := by have := hI.wm.1; omega
          have hok := Array.getElem?_eq_getElem hkn
          rw [← ih (by omega)]
          cases hw : wrtO E ops[k] with
          | true => exact hI.un j hj id h1 h2 k _ ((hI.wm.2 k _ hok hw).2 (by omega)) hok hw (by omega)
          | false =>
            obtain ⟨D, hD'⟩ := hT.nw1 hok hw
            rw [hD', List.getElem?_append_left]
            have := hT.len (show j + 1 ≤ k by omega) (by omega)
            omega
      exact chain c hge (Nat.le_refl _)
    · have : c = j + 1 := by
        rcases Nat.lt_or_ge (j + 1) c with h4 | h4
        · have := hc.least (j + 1) h3 h4; omega
        · omega
      rw [this]
  -- each id that lives: what it is
  have H1 : ∀ {id : Nat} {L : Loc} {c : Nat} {b : Blk}, nextMu tr j μ1 μ id = some L → Cut ops tr (nextM E o j m) id c → (tr c).heap[id]? = some (some b) →
      (id < (tr (j + 1)).heap.length → (ftO o = true ∨ (tr j).heap.length ≤ id) → (tr (j + 1)).heap[id]? = some (some b)) ∧
      (((tr j).heap.length ≤ id ∧ id < (tr (j + 1)).heap.length ∧ restr μ (tr j).heap.length id = none) ∨ (μ id = some L ∧ ∃ c0 b0, Cut ops tr m id c0 ∧ (tr c0).heap[id]? = some (some b0))) := by
    intro id L c b hl hc hb
    by_cases hid : id < (tr (j + 1)).heap.length
    · have hl1 := hlow hid hl
      cases hw : wrtO E o with
      | true =>
        have hcj : c = j + 1 := by
          unfold nextM at hc
          rw [if_pos hw] at hc
          rcases Nat.lt_or_ge (j + 1) c with h4 | h4
          · have := hc.least (j + 1) (Nat.le_refl _) h4; omega
          · have := hc.le; omega
        subst hcj
        refine ⟨fun _ _ => hb, ?_⟩
        rcases Nat.lt_or_ge id (tr j).heap.length with h2 | h2
        · right
          have hr : restr μ (tr j).heap.length id = some L := (hE.new id L hl1).resolve_right (by omega)
          obtain ⟨b0, hb0⟩ := hE.rev (wrt_ft hw) id L b hr hb
          obtain ⟨c0, hc0, heq, _⟩ := hI.cutAt hD hT ho hj hd (wrt_ft hw) h2
          exact ⟨(restr_some.1 hr).2, c0, b0, hc0, by rw [heq]; exact hb0⟩
        · left
          refine ⟨h2, hid, ?_⟩
          unfold restr; rw [if_neg (by omega)]
      | false =>
        unfold nextM at hc
        rw [if_neg (by simp [hw])] at hc
        rcases Nat.lt_or_ge id (tr j).heap.length with h2 | h2
        · have hr : restr μ (tr j).heap.length id = some L := (hE.new id L hl1).resolve_right (by omega)
          refine ⟨fun _ hA => ?_, .inr ⟨(restr_some.1 hr).2, c, b, hc, hb⟩⟩
          have ht : ftO o = true := hA.resolve_right (by omega)
          obtain ⟨c0, hc0, heq, _⟩ := hI.cutAt hD hT ho hj hd ht h2
          rw [hc.uniq hc0, heq] at hb
          obtain ⟨D, hD'⟩ := hT.nw1 ho hw
          rw [hD', List.getElem?_append_left h2]
          exact hb
        · obtain ⟨heq, _⟩ := hcutNew hw h2 hid hc
          refine ⟨fun _ _ => by rw [← heq]; exact hb, .inl ⟨h2, hid, ?_⟩⟩
          unfold restr; rw [if_neg (by omega)]
    · exact ⟨fun h => absurd h hid, .inr ⟨hhigh hid hl, c, b, hcutHigh hid hc, hb⟩⟩
  -- what was owned at the operation was owned at first
  have hOwn0 : ∀ {b : Nat}, ftO o = true → Owned (restr μ (tr j).heap.length) (tr j).heap b → ∃ id0 L0 c0 b0, id0 < (tr j).heap.length ∧ μ id0 = some L0 ∧ Cut ops tr m id0 c0 ∧ (tr c0).heap[id0]? = some (some b0) ∧ L0.md = .wr ∧ L0.b = b := by
    rintro b ht ⟨id0, L0, b0, hr, hb0, hw0, hLb⟩
    obtain ⟨hlt, hμ0⟩ := restr_some.1 hr
    obtain ⟨c0, hc0, heq, _⟩ := hI.cutAt hD hT ho hj hd ht hlt
    exact ⟨id0, L0, c0, b0, hlt, hμ0, hc0, by rw [heq]; exact hb0, hw0, hLb⟩
  -- a block that is alive and lies in memory
  have hAlive : ∀ {id : Nat} {L : Loc} {c0 : Nat} {b0 : Blk}, μ id = some L → Cut ops tr m id c0 → (tr c0).heap[id]? = some (some b0) → L.md ≠ .z → L.b < w.heap.size := by
    intro id L c0 b0 hl hc hb hz
    exact (hI.blk id L b0 c0 hl hc hb c0 hc.lt (Nat.le_refl _) (Sm.refl _ _)).lt hz
  refine ⟨?_, ⟨hmle, ?_⟩, ?_, ?_, ?_, ?_, ?_, ?_, ?_, ?_, ?_, hI.ext.trans hext, Nat.le_trans hI.size hE.size, ?_, ?_, ?_, ?_, hE.os.trans hI.os, hE.tape.trans hI.tape, hE.output.trans hI.output⟩
  · -- down
    rintro i (hi | rfl)
    · obtain ⟨oi, hoi, hdi⟩ := hI.down i hi
      exact ⟨oi, hoi, fun k hk => .inl (hdi k hk)⟩
    · exact ⟨o, ho, fun k hk => .inl (hd k hk)⟩
  · -- wm
    intro i oi hoi hwi
    unfold nextM
    by_cases hij : i = j
    · subst hij
      rw [ho] at hoi; injection hoi with hoi; subst hoi
      rw [if_pos hwi]
      exact ⟨fun _ => by omega, fun _ => .inr rfl⟩
    · split
      · rename_i hw
        have := (hI.cuts hD ho hj hd (wrt_ft hw)).1 i oi hoi hwi hij
        exact ⟨fun h => by have := this.1 (h.resolve_right hij); omega, fun h => .inl (this.2 (by omega))⟩
      · have := hI.wm.2 i oi hoi hwi
        exact ⟨fun h => this.1 (h.resolve_right hij), fun h => .inl (this.2 h)⟩
  · -- tsz
    cases o.dst <;> simp [Act.put, hI.tsz]
  · -- told
    intro t ht
    have hdo : o.dst ≠ some t := ht j o (.inr rfl) ho
    have := hI.told t fun i oi hi hoi => ht i oi (.inl hi) hoi
    rw [Act.getD_put, if_neg (fun h => hdo h.1)]
    exact this.ext (restr_mono (Nat.le_refl _) fun id L _ h => hext id L h)
  · -- tnew
    rintro t i oi (hi | rfl) hoi hdi
    · have hne : i ≠ j := fun h => hj (h ▸ hi)
      have hdo : o.dst ≠ some t := hD.dst i j oi o t hne hoi ho hdi
      rw [Act.getD_put, if_neg (fun h => hdo h.1)]
      exact (hI.tnew t i oi hi hoi hdi).ext (restr_mono (Nat.le_refl _) fun id L _ h => hext id L h)
    · rw [ho] at hoi; injection hoi with hoi; subst hoi
      rw [Act.getD_put, htm, hdi]
      simp only [putT, getD_set, true_and]
      have hsz : a.tmps.size = (tr i).tmps.length := by rw [hI.tsz, hT.tlen (show i ≤ ops.size by omega)]
      by_cases hl : t < (tr i).tmps.length
      · rw [if_pos hl, if_pos (by omega)]; exact hval
      · rw [if_neg hl, if_neg (by omega), List.getD_eq_getElem?_getD, List.getElem?_eq_none (by omega)]
        trivial
  · -- dom
    intro id L hl
    by_cases hid : id < (tr (j + 1)).heap.length
    · rcases hE.new id L (hlow hid hl) with h | h
      · exact (hI.dom id L (restr_some.1 h).2).imp (fun x => x) fun ⟨i, h1, h2⟩ => ⟨i, .inl h1, h2⟩
      · exact .inr ⟨j, .inr rfl, h, hid⟩
    · exact (hI.dom id L (hhigh hid hl)).imp (fun x => x) fun ⟨i, h1, h2⟩ => ⟨i, .inl h1, h2⟩
  · -- dom0
    intro id L hl h0
    have hr := (hE.new id L (hlow (by omega) hl)).resolve_right (by omega)
    exact hI.dom0 id L (restr_some.1 hr).2 h0
  · -- blk
    intro id L b c hl hc hb c' hc'1 hc'2 hnw
    by_cases hid : id < (tr (j + 1)).heap.length
    · have hl1 := hlow hid hl
      cases hw : wrtO E o with
      | true =>
        unfold nextM at hc
        rw [if_pos hw] at hc
        have hcj : c = j + 1 := by
          rcases Nat.lt_or_ge (j + 1) c with h4 | h4
          · have := hc.least (j + 1) (Nat.le_refl _) h4; omega
          · have := hc.le; omega
        subst hcj
        have hnew := hE.blk id L b hl1 (.inl (wrt_ft hw)) hb
        rcases Nat.lt_or_ge c' (j + 1) with h4 | h4
        · have hlen' := hT.len (show c' ≤ j by omega) (by omega)
          have h2 : id < (tr j).heap.length := by omega
          have hbj : (tr j).heap[id]? = some (some b) := by rw [hnw j (by omega) (by omega)]; exact hb
          have hr : restr μ (tr j).heap.length id = some L := (hE.new id L hl1).resolve_right (by omega)
          have hμ := (restr_some.1 hr).2
          obtain ⟨c0, hc0, heq, hor⟩ := hI.cutAt hD hT ho hj hd (wrt_ft hw) h2
          rw [hbj] at heq
          have hold : BlkRel E.P (restr μ (tr c').heap.length) L b w := by
            rcases Nat.lt_or_ge c0 c' with h5 | h5
            · have := hI.blk id L b c0 hμ hc0 heq c0 hc0.lt (Nat.le_refl _) (Sm.refl _ _)
              have he : Ext (restr μ (tr c0).heap.length) (restr μ (tr c').heap.length) := restr_mono (hT.len (by omega) (by omega)) fun _ _ _ h => h
              exact this.of_any he
            · refine hI.blk id L b c0 hμ hc0 heq c' hc'1 h5 fun k hk1 hk2 => ?_
              rw [heq]
              rcases Nat.lt_or_ge k (j + 1) with h6 | h6
              · rw [hnw k hk1 (by omega)]; exact hb
              · rcases hor with h7 | ⟨_, h7⟩
                · omega
                · have := h7 k (by omega) hk2
                  rw [this, heq]
          have hre : Ext (restr μ (tr c').heap.length) (restr (nextMu tr j μ1 μ) (tr c').heap.length) := restr_mono (Nat.le_refl _) fun i M _ h => hext i M h
          refine BlkRel.of_any (μ := restr μ (tr c').heap.length) ?_ hre
          refine ⟨hnew.elem, hnew.md, hnew.rows, hnew.sz, hnew.row, fun r row hr' k l hk => ?_, hnew.z, hnew.lt, hnew.own, hnew.whl⟩
          obtain ⟨u, hu, hrel⟩ := hnew.cell r row hr' k l hk
          obtain ⟨u0, _, hrel0⟩ := hold.cell r row hr' k l hk
          exact ⟨u, hu, LRel.back (μ' := nextMu tr j μ1 μ) (fun i M hM => hext i M (restr_some.1 hM).2) hrel0 (hrel.ext hext1)⟩
        · have hc'j : c' = j + 1 := by omega
          subst hc'j
          exact hnew.of_any fun i M hM => restr_some.2 ⟨hE.dom i M hM, hext1 i M hM⟩
      | false =>
        unfold nextM at hc
        rw [if_neg (by simp [hw])] at hc
        rcases Nat.lt_or_ge id (tr j).heap.length with h2 | h2
        · have hr : restr μ (tr j).heap.length id = some L := (hE.new id L hl1).resolve_right (by omega)
          have hμ := (restr_some.1 hr).2
          have hold := hI.blk id L b c hμ hc hb c' hc'1 hc'2 hnw
          have hre : Ext (restr μ (tr c').heap.length) (restr (nextMu tr j μ1 μ) (tr c').heap.length) := restr_mono (Nat.le_refl _) fun i M _ h => hext i M h
          cases ht : ftO o with
          | false =>
            by_cases hz : L.md = .z
            · exact hold.of_z hz
            · exact hold.of_block hre (hE.keep _ (hold.lt hz) fun h => by rw [ht] at h; cases h)
          | true =>
            obtain ⟨c0, hc0, heq, _⟩ := hI.cutAt hD hT ho hj hd ht h2
            have hbj : (tr (j + 1)).heap[id]? = some (some b) := by
              obtain ⟨D, hD'⟩ := hT.nw1 ho hw
              rw [hD', List.getElem?_append_left h2, ← heq, hc0.uniq hc]
              exact hb
            have hnew := hE.blk id L b hl1 (.inl ht) hbj
            refine BlkRel.of_any (μ := restr μ (tr c').heap.length) ?_ hre
            refine ⟨hnew.elem, hnew.md, hnew.rows, hnew.sz, hnew.row, fun r row hr' k l hk => ?_, hnew.z, hnew.lt, hnew.own, hnew.whl⟩
            obtain ⟨u, hu, hrel⟩ := hnew.cell r row hr' k l hk
            obtain ⟨u0, _, hrel0⟩ := hold.cell r row hr' k l hk
            exact ⟨u, hu, LRel.back (μ' := nextMu tr j μ1 μ) (fun i M hM => hext i M (restr_some.1 hM).2) hrel0 (hrel.ext hext1)⟩
        · obtain ⟨heq, hge⟩ := hcutNew hw h2 hid hc
          have hge' : j + 1 ≤ c' := by
            rcases Nat.lt_or_ge c' (j + 1) with h3 | h3
            · have := hT.len (show c' ≤ j by omega) (by omega); omega
            · exact h3
          have hlen' := hT.len hge' (by have := hc.top; omega)
          exact (hE.blk id L b hl1 (.inr h2) (by rw [← heq]; exact hb)).of_any fun i M hM => restr_some.2 ⟨Nat.lt_of_lt_of_le (hE.dom i M hM) hlen', hext1 i M hM⟩
    · have hμ := hhigh hid hl
      have hc0 := hcutHigh hid hc
      have hold := hI.blk id L b c hμ hc0 hb c' hc'1 hc'2 hnw
      have hre : Ext (restr μ (tr c').heap.length) (restr (nextMu tr j μ1 μ) (tr c').heap.length) := restr_mono (Nat.le_refl _) fun i M _ h => hext i M h
      by_cases hz : L.md = .z
      · exact hold.of_z hz
      · refine hold.of_block hre (hE.keep _ (hold.lt hz) fun ht hown => ?_)
        obtain ⟨id0, L0, c00, b0, hlt0, hμ0, hc00, hb0, hw0, hLb⟩ := hOwn0 ht hown
        exact hI.inj id0 L0 b0 c00 id L b c (by omega) hμ0 hc00 hb0 hμ hc0 hb hw0 hz hLb
  · -- inj
    intro i1 L1 b1 c1 i2 L2 b2 c2 hne hl1 hc1 hb1 hl2 hc2 hb2 hw1 hz2 heq
    obtain ⟨hA1, hB1⟩ := H1 hl1 hc1 hb1
    obtain ⟨hA2, hB2⟩ := H1 hl2 hc2 hb2
    by_cases hboth : (i1 < (tr (j + 1)).heap.length ∧ (ftO o = true ∨ (tr j).heap.length ≤ i1)) ∧ (i2 < (tr (j + 1)).heap.length ∧ (ftO o = true ∨ (tr j).heap.length ≤ i2))
    · exact hE.inj i1 L1 b1 i2 L2 b2 hne (hlow hboth.1.1 hl1) hboth.1.2 (hA1 hboth.1.1 hboth.1.2) (hlow hboth.2.1 hl2) hboth.2.2 (hA2 hboth.2.1 hboth.2.2) hw1 hz2 heq
    · rcases hB1 with ⟨h11, h12, h13⟩ | ⟨hμ1, c01, b01, hc01, hb01⟩
      · rcases hB2 with ⟨h21, h22, h23⟩ | ⟨hμ2, c02, b02, hc02, hb02⟩
        · exact hboth ⟨⟨h12, .inr h11⟩, ⟨h22, .inr h21⟩⟩
        · have hlt2 := hAlive hμ2 hc02 hb02 hz2
          rcases hE.frs i1 L1 (hlow h12 hl1) h13 (by rw [hw1]; simp) with hs | ⟨ht, hown⟩
          · rw [heq] at hs; omega
          · obtain ⟨id0, L0, c00, b0, hlt0, hμ0, hc00, hb0, hw0, hLb⟩ := hOwn0 ht hown
            by_cases hid2 : i2 < (tr (j + 1)).heap.length
            · exact hboth ⟨⟨h12, .inr h11⟩, ⟨hid2, .inl ht⟩⟩
            · exact hI.inj id0 L0 b0 c00 i2 L2 b02 c02 (by omega) hμ0 hc00 hb0 hμ2 hc02 hb02 hw0 hz2 (by rw [hLb]; exact heq)
      · have hlt1 := hAlive hμ1 hc01 hb01 (by rw [hw1]; simp)
        rcases hB2 with ⟨h21, h22, h23⟩ | ⟨hμ2, c02, b02, hc02, hb02⟩
        · rcases hE.frs i2 L2 (hlow h22 hl2) h23 hz2 with hs | ⟨ht, hown⟩
          · rw [← heq] at hs; omega
          · obtain ⟨id0, L0, c00, b0, hlt0, hμ0, hc00, hb0, hw0, hLb⟩ := hOwn0 ht hown
            by_cases hid1 : i1 < (tr (j + 1)).heap.length
            · exact hboth ⟨⟨hid1, .inl ht⟩, ⟨h22, .inr h21⟩⟩
            · exact hI.inj id0 L0 b0 c00 i1 L1 b01 c01 (by omega) hμ0 hc00 hb0 hμ1 hc01 hb01 hw0 (by rw [hw1]; simp) (by rw [hLb]; exact heq.symm)
        · exact hI.inj i1 L1 b01 c01 i2 L2 b02 c02 hne hμ1 hc01 hb01 hμ2 hc02 hb02 hw1 hz2 heq
  · -- un
    rintro i hi id h1 h2 k ok (hk | rfl) hok hwk hik
    · exact hI.un i (fun h => hi (.inl h)) id h1 h2 k ok hk hok hwk hik
    · rw [ho] at hok; injection hok with hok; subst hok
      have hle := hT.len (show i + 1 ≤ k from hik) (by omega)
      refine hE.out (wrt_ft hwk) id (by omega) ?_
      cases hr : restr μ (tr k).heap.length id with
      | none => rfl
      | some L => exact (hI.notnew hT (by omega) (fun h => hi (.inl h)) (restr_some.1 hr).2 h1 h2).elim
  · -- un0
    rintro id h0 hn k ok (hk | rfl) hok hwk
    · exact hI.un0 id h0 hn k ok hk hok hwk
    · rw [ho] at hok; injection hok with hok; subst hok
      refine hE.out (wrt_ft hwk) id (by omega) ?_
      cases hr : restr μ (tr k).heap.length id with
      | none => rfl
      | some L => have := hI.dom0 id L (restr_some.1 hr).2 h0; rw [hn] at this; cases this
  · -- keep
    intro b hb hno
    have hlt : b < w.heap.size := Nat.lt_of_lt_of_le hb hI.size
    refine (hE.keep b hlt fun ht hown => ?_).trans (hI.keep b hb hno)
    obtain ⟨id0, L0, c00, b0, hlt0, hμ0, hc00, hb0, hw0, hLb⟩ := hOwn0 ht hown
    have := hI.own id0 L0 c00 b0 hμ0 hc00 hb0 hw0 (by rw [hLb]; exact hb)
    rw [hLb] at this
    exact hno this
  · -- own
    intro id L c b hl hc hb hw hlt
    obtain ⟨hA, hB⟩ := H1 hl hc hb
    rcases hB with ⟨h1, h2, h3⟩ | ⟨hμ, c0, b0, hc0, hb0⟩
    · obtain ⟨ht, hown⟩ := hE.own id L b (hlow h2 hl) (.inr h1) (hA h2 (.inr h1)) hw (Nat.lt_of_lt_of_le hlt hI.size)
      obtain ⟨id0, L0, c00, b00, hlt0, hμ0, hc00, hb00, hw0, hLb⟩ := hOwn0 ht hown
      have := hI.own id0 L0 c00 b00 hμ0 hc00 hb00 hw0 (by rw [hLb]; exact hlt)
      rw [hLb] at this
      exact this
    · exact hI.own id L c0 b0 hμ hc0 hb0 hw hlt
  · -- frs
    intro id L hl hn hz
    by_cases hid : id < (tr (j + 1)).heap.length
    · have hl1 := hlow hid hl
      cases hr : restr μ (tr j).heap.length id with
      | some L' =>
        have := hE.ext id L' hr
        rw [hl1] at this; injection this with this; subst this
        exact hI.frs id L (restr_some.1 hr).2 hn hz
      | none =>
        rcases hE.frs id L hl1 hr hz with hs | ⟨ht, hown⟩
        · exact .inl (Nat.le_trans hI.size hs)
        · obtain ⟨id0, L0, c00, b00, hlt0, hμ0, hc00, hb00, hw0, hLb⟩ := hOwn0 ht hown
          rcases Nat.lt_or_ge L.b w0.heap.size with h4 | h4
          · have := hI.own id0 L0 c00 b00 hμ0 hc00 hb00 hw0 (by rw [hLb]; exact h4)
            rw [hLb] at this
            exact .inr this
          · exact .inl h4
    · exact hI.frs id L (hhigh hid hl) hn hz
  · -- rev
    intro id L c b hl h0 hc hb
    obtain ⟨hA, hB⟩ := H1 hl hc hb
    rcases hB with ⟨h1, h2, h3⟩ | ⟨hμ, c0, b0, hc0, hb0⟩
    · exact (hI.notnew hT hjn hj (hI.ext id L h0) h1 h2).elim
    · exact hI.rev id L c0 b0 hμ h0 hc0 hb0
end
end Go.Ab
