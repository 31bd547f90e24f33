/- Regions that draw their order: the invariant over what is listed so far, and that it lasts. -/
import Derived.Test.YtdojljjiekgapaaGreatDoorAbDraw2
set_option linter.unusedVariables false
set_option linter.unusedSimpArgs false
namespace Go.Ab

def restr (μ : Mu) (n : Nat) : Mu := fun id => if id < n then μ id else none
theorem restr_some {μ : Mu} {n id : Nat} {L : Loc} : restr μ n id = some L ↔ id < n ∧ μ id = some L := by
  unfold restr
  by_cases h : id < n <;> simp [h]
theorem restr_ext (μ : Mu) (n : Nat) : Ext (restr μ n) μ := fun id L h => (restr_some.1 h).2
theorem restr_mono {μ μ' : Mu} {n n' : Nat} (h : n ≤ n') (he : ∀ id L, id < n → μ id = some L → μ' id = some L) : Ext (restr μ n) (restr μ' n') := fun id L hl =>
  let ⟨h1, h2⟩ := restr_some.1 hl
  restr_some.2 ⟨Nat.lt_of_lt_of_le h1 h, he id L h1 h2⟩
/-- One that touches more than one block that it reads. -/
def ftO (o : Oper) : Bool := tchO o && !rdO o
theorem ft_tch {o : Oper} (h : ftO o = true) : tchO o = true := by
  unfold ftO at h
  simp only [Bool.and_eq_true] at h
  exact h.1
theorem ft_rd {o : Oper} (h : ftO o = true) : rdO o = false := by
  unfold ftO at h
  simp only [Bool.and_eq_true, Bool.not_eq_true'] at h
  exact h.2
theorem wrt_rd {E : Env} {o : Oper} (h : wrtO E o = true) : rdO o = false := by
  unfold wrtO at h
  unfold rdO
  split at h <;> simp_all
theorem wrt_ft {E : Env} {o : Oper} (h : wrtO E o = true) : ftO o = true := by
  unfold ftO
  rw [wrt_tch h, wrt_rd h]; rfl
theorem rd_wrt {E : Env} {o : Oper} (h : rdO o = true) : wrtO E o = false := by
  cases hw : wrtO E o with
  | false => rfl
  | true => rw [wrt_rd hw] at h; cases h
theorem rd_tch {o : Oper} (h : rdO o = true) : tchO o = true := by
  unfold rdO at h
  unfold tchO
  split at h <;> simp_all
theorem rd_ft {o : Oper} (h : rdO o = true) : ftO o = false := by
  unfold ftO
  rw [h]; simp
section
variable (E : Env) (call : Fun) (ops : Array Oper) (tr : Nat → St)
abbrev hp (j : Nat) : Heap := (tr j).heap
/-- The first state from m on that knows the id. -/
structure Cut (m id c : Nat) : Prop where
  le : m ≤ c
  top : c ≤ ops.size
  lt : id < (tr c).heap.length
  least : ∀ c', m ≤ c' → c' < c → (tr c').heap.length ≤ id
/-- A block is the same from c' to c. -/
def Sm (id c' c : Nat) : Prop := ∀ k, c' ≤ k → k ≤ c → (tr k).heap[id]? = (tr c).heap[id]?
/-- What holds of memory and of temporaries when the operations of S are done, all that write before m and none behind. -/
structure Inv (μ0 : Mu) (w0 : World) (S : Nat → Prop) (m : Nat) (μ : Mu) (a : Act) (w : World) : Prop where
  down : ∀ j, S j → ∃ o, ops[j]? = some o ∧ ∀ i ∈ direct o, S i
  wm : m ≤ ops.size ∧ ∀ (i : Nat) (o : Oper), ops[i]? = some o → wrtO E o = true → (S i ↔ i < m)
  tsz : a.tmps.size = (tr 0).tmps.length
  told : ∀ t, (∀ (i : Nat) (o : Oper), S i → ops[i]? = some o → o.dst ≠ some t) → VRel (restr μ (tr 0).heap.length) ((tr 0).tmps.getD t .bad) (a.tmps.getD t undef)
  tnew : ∀ (t i : Nat) (o : Oper), S i → ops[i]? = some o → o.dst = some t → VRel (restr μ (tr (i + 1)).heap.length) ((tr (i + 1)).tmps.getD t .bad) (a.tmps.getD t undef)
  dom : ∀ id L, μ id = some L → id < (tr 0).heap.length ∨ ∃ i, S i ∧ (tr i).heap.length ≤ id ∧ id < (tr (i + 1)).heap.length
  dom0 : ∀ id L, μ id = some L → id < (tr 0).heap.length → μ0 id = some L
  blk : ∀ id L b c, μ id = some L → Cut ops tr m id c → (tr c).heap[id]? = some (some b) → ∀ c', id < (tr c').heap.length → c' ≤ c → Sm tr id c' c → BlkRel E.P (restr μ (tr c').heap.length) L b w
  inj : ∀ i1 L1 b1 c1 i2 L2 b2 c2, i1 ≠ i2 → μ i1 = some L1 → Cut ops tr m i1 c1 → (tr c1).heap[i1]? = some (some b1) → μ i2 = some L2 → Cut ops tr m i2 c2 → (tr c2).heap[i2]? = some (some b2) → L1.md = .wr → L2.md ≠ .z → L1.b ≠ L2.b
  un : ∀ i, ¬ S i → ∀ id, (tr i).heap.length ≤ id → id < (tr (i + 1)).heap.length → ∀ (k : Nat) (o : Oper), S k → ops[k]? = some o → wrtO E o = true → i < k → (tr (k + 1)).heap[id]? = (tr k).heap[id]?
  un0 : ∀ id, id < (tr 0).heap.length → μ0 id = none → ∀ (k : Nat) (o : Oper), S k → ops[k]? = some o → wrtO E o = true → (tr (k + 1)).heap[id]? = (tr k).heap[id]?
  ext : Ext μ0 μ
  size : w0.heap.size ≤ w.heap.size
  keep : ∀ b, b < w0.heap.size → ¬ Owned μ0 (tr 0).heap b → w.heap[b]? = w0.heap[b]?
  own : ∀ id L c b, μ id = some L → Cut ops tr m id c → (tr c).heap[id]? = some (some b) → L.md = .wr → L.b < w0.heap.size → Owned μ0 (tr 0).heap L.b
  frs : ∀ id L, μ id = some L → μ0 id = none → L.md ≠ .z → w0.heap.size ≤ L.b ∨ Owned μ0 (tr 0).heap L.b
  rev : ∀ id L c b, μ id = some L → μ0 id = some L → Cut ops tr m id c → (tr c).heap[id]? = some (some b) → ∃ b0, (tr 0).heap[id]? = some (some b0)
  os : w.os = w0.os
  tape : w.tape = w0.tape
  output : w.output = w0.output
end
section
variable {E : Env} {call : Fun} {ops : Array Oper} {tr : Nat → St}
theorem Cut.uniq {m id c1 c2 : Nat} (h1 : Cut ops tr m id c1) (h2 : Cut ops tr m id c2) : c1 = c2 := by
  rcases Nat.lt_trichotomy c1 c2 with h | h | h
  · have := h2.least c1 h1.le h; have := h1.lt; omega
  · exact h
  · have := h1.least c2 h2.le h; have := h2.lt; omega
theorem Cut.ex {m id b : Nat} (hmb : m ≤ b) (hb : b ≤ ops.size) (hid : id < (tr b).heap.length) : ∃ c, c ≤ b ∧ Cut ops tr m id c := by
  have : ∀ k, k ≤ b - m → (∀ c', m ≤ c' → c' < b - k → (tr c').heap.length ≤ id) ∨ ∃ c, c ≤ b ∧ Cut ops tr m id c := by
    intro k hk
    by_cases h : ∀ c', m ≤ c' → c' < b - k → (tr c').heap.length ≤ id
    · exact .inl h
    · right
      -- strong induction for the least one
      have ex : ∃ c', m ≤ c' ∧ c' < b - k ∧ id < (tr c').heap.length := by
        apply Classical.byContradiction
        intro hn
        exact h fun c' h1 h2 => by
          apply Classical.byContradiction
          intro h3
          exact hn ⟨c', h1, h2, by omega⟩
      obtain ⟨c', h1, h2, h3⟩ := ex
      induction c' using Nat.strongRecOn with
      | _ c' ih =>
        by_cases hl : ∃ d, m ≤ d ∧ d < c' ∧ id < (tr d).heap.length
        · obtain ⟨d, hd1, hd2, hd3⟩ := hl
          exact ih d hd2 hd1 (by omega) hd3
        · exact ⟨c', by omega, h1, by omega, h3, fun d hd1 hd2 => by
            apply Classical.byContradiction
            intro h4
            exact hl ⟨d, hd1, hd2, by omega⟩⟩
  rcases this 0 (by omega) with h | h
  · exact ⟨b, Nat.le_refl _, hmb, hb, hid, by simpa using h⟩
  · exact h
variable {μ0 : Mu} {w0 : World} {S : Nat → Prop} {m : Nat} {μ : Mu} {a : Act} {w : World}
theorem Inv.anc (hI : Inv E ops tr μ0 w0 S m μ a w) (hD : DS E ops) {j : Nat} {o : Oper} (ho : ops[j]? = some o) (hd : ∀ i ∈ direct o, S i) {i : Nat} (h : anc ops j i) : S i := by
  induction j using Nat.strongRecOn generalizing o i with
  | _ j ih =>
    obtain ⟨k, hk, hki⟩ := anc_step ho (hD.back j o ho) h
    rcases hki with rfl | hki
    · exact hd i hk
    · obtain ⟨ok, hok, hdk⟩ := hI.down k (hd k hk)
      exact ih k (hD.back j o ho k hk) hok hdk hki
theorem Inv.ancS (hI : Inv E ops tr μ0 w0 S m μ a w) (hD : DS E ops) {j i : Nat} (hj : S j) (h : Go.Ab.anc ops j i) : S i := by
  obtain ⟨o, ho, hd⟩ := hI.down j hj
  exact hI.anc hD ho hd h
/-- What the operation that comes next sees of temporaries. -/
theorem Inv.seen (hI : Inv E ops tr μ0 w0 S m μ a w) (hD : DS E ops) (hT : Trc E call ops tr) {j : Nat} {o : Oper} (ho : ops[j]? = some o) (hj : ¬ S j) (hd : ∀ i ∈ direct o, S i) {t : Nat} (ht : t ∈ Oper.looksAt ops o) :
    VRel (restr μ (tr j).heap.length) ((tr j).tmps.getD t .bad) (a.tmps.getD t undef) := by
  have hjn : j < ops.size := (Array.getElem?_eq_some_iff.1 ho).1
  by_cases hex : ∃ (i : Nat) (oi : Oper), ops[i]? = some oi ∧ oi.dst = some t
  · obtain ⟨i, oi, hi, hdi⟩ := hex
    have hin : i < ops.size := (Array.getElem?_eq_some_iff.1 hi).1
    have hne : i ≠ j := by
      intro h; subst h
      rw [ho] at hi; injection hi with hi; subst hi
      exact hD.self i o t ho hdi ht
    have huniq : ∀ (k : Nat) (ok : Oper), ops[k]? = some ok → k ≠ i → ok.dst ≠ some t := fun k ok hk hki => hD.dst i k oi ok t (Ne.symm hki) hi hk hdi
    obtain ⟨h1, h2⟩ := hD.look i j oi o t hne hi ho hdi ht
    rcases Nat.lt_or_ge i j with hlt | hge
    · have hSi := hI.anc hD ho hd (h1 hlt)
      have hv := hI.tnew t i oi hSi hi hdi
      rw [hT.tsame (show i + 1 ≤ j from hlt) (by omega) t fun k ok h3 h4 hk => huniq k ok hk (by omega)]
      exact hv.ext (restr_mono (hT.len hlt (by omega)) fun _ _ _ h => h)
    · have hSi : ¬ S i := fun hS => hj (hI.ancS hD hS (h2 (by omega)))
      have hv := hI.told t fun k ok hk hok => huniq k ok hok (fun h => by subst h; exact hSi hk)
      rw [hT.tsame (Nat.zero_le j) (by omega) t fun k ok _ h4 hk => huniq k ok hk (by omega)]
      exact hv.ext (restr_mono (hT.len (Nat.zero_le j) (by omega)) fun _ _ _ h => h)
  · have hno : ∀ (k : Nat) (ok : Oper), ops[k]? = some ok → ok.dst ≠ some t := fun k ok hk hd => hex ⟨k, ok, hk, hd⟩
    have hv := hI.told t fun k ok _ hok => hno k ok hok
    rw [hT.tsame (Nat.zero_le j) (by omega) t fun k ok _ _ hk => hno k ok hk]
    exact hv.ext (restr_mono (hT.len (Nat.zero_le j) (by omega)) fun _ _ _ h => h)
/-- The temporaries that the operation looks at, the others unknown. -/
def lookT (ops : Array Oper) (o : Oper) (tm : List V) : List V := (List.range tm.length).map fun t => if t ∈ Oper.looksAt ops o then tm.getD t .bad else .bad
theorem lookT_get (o : Oper) (tm : List V) (t : Nat) (h : t ∈ Oper.looksAt ops o) : (lookT ops o tm).getD t .bad = tm.getD t .bad := by
  unfold lookT
  rw [List.getD_eq_getElem?_getD, List.getElem?_map]
  rcases Nat.lt_or_ge t tm.length with hl | hl
  · simp [hl, h]
  · simp [List.getElem?_eq_none hl, hl]
theorem lookT_ev (o : Oper) (tm : List V) (x : Operand) (h : x ∈ o.op.operands) : ev tm x = ev (lookT ops o tm) x := by
  cases x with
  | tmp t =>
    refine (lookT_get o tm t ?_).symm
    exact List.mem_append_left _ (List.mem_filterMap.2 ⟨.tmp t, by simpa using h, rfl⟩)
  | _ => rfl
theorem lookT_want (o : Oper) (tm : List V) : wantV ops (lookT ops o tm) o = wantV ops tm o := by
  unfold wantV
  split
  · rfl
  · rename_i j want hg
    split
    · rfl
    · rename_i t hd
      rw [lookT_get o tm t (by
        refine List.mem_append_right _ ?_
        rw [hg]
        simp [hd])]
theorem Inv.look (hI : Inv E ops tr μ0 w0 S m μ a w) (hD : DS E ops) (hT : Trc E call ops tr) {j : Nat} {o : Oper} (ho : ops[j]? = some o) (hj : ¬ S j) (hd : ∀ i ∈ direct o, S i) :
    TRel (restr μ (tr j).heap.length) (lookT ops o (tr j).tmps) a.tmps := by
  have hjn : j < ops.size := (Array.getElem?_eq_some_iff.1 ho).1
  refine ⟨by simp [lookT, hT.tlen (show j ≤ ops.size by omega), hI.tsz], ?_⟩
  intro t v cv hv hcv
  unfold lookT at hv
  rw [List.getElem?_map] at hv
  rw [Array.getElem?_toList] at hcv
  rcases Nat.lt_or_ge t (tr j).tmps.length with hl | hl
  · simp [hl] at hv
    subst hv
    split
    · rename_i hlk
      have := hI.seen hD hT ho hj hd hlk
      rw [show a.tmps.getD t undef = cv by simp [Array.getD_eq_getD_getElem?, hcv]] at this
      rw [List.getD_eq_getElem?_getD] at this
      simpa [hl] using this
    · trivial
  · rw [List.getElem?_eq_none (by simpa using hl)] at hv; cases hv
theorem Sm.nw (hT : Trc E call ops tr) {c' c : Nat} (hc : c' ≤ c) (hn : c ≤ ops.size) (h : NW E ops c' c) {id : Nat} (hid : id < (tr c').heap.length) : Sm tr id c' c := fun k h1 h2 => by
  have e1 := hT.nw h1 (by omega) (fun i o h3 h4 hi => h i o h3 (by omega) hi) hid
  have e2 := hT.nw hc hn h hid
  rw [e1, e2]
theorem Sm.refl (id c : Nat) : Sm tr id c c := fun k h1 h2 => by
  have : k = c := by omega
  rw [this]
theorem Sm.at_ {id c' c : Nat} (h : Sm tr id c' c) (hc : c' ≤ c) : (tr c').heap[id]? = (tr c).heap[id]? := h c' (Nat.le_refl _) hc
/-- Where the operation reads or writes memory, what is there is what the run has there. -/
theorem Inv.cuts (hI : Inv E ops tr μ0 w0 S m μ a w) (hD : DS E ops) {j : Nat} {o : Oper} (ho : ops[j]? = some o) (hj : ¬ S j) (hd : ∀ i ∈ direct o, S i) (ht : ftO o = true) :
    (∀ (i : Nat) (oi : Oper), ops[i]? = some oi → wrtO E oi = true → i ≠ j → (S i ↔ i < j)) ∧ NW E ops m j ∧ (wrtO E o = false → NW E ops j m) ∧ (wrtO E o = true → m ≤ j) := by
  have h1 : ∀ (i : Nat) (oi : Oper), ops[i]? = some oi → wrtO E oi = true → i ≠ j → (S i ↔ i < j) := by
    intro i oi hi hw hne
    obtain ⟨h1, h2⟩ := (hD.wt i j oi o hne hi ho hw (ft_tch ht)).resolve_right fun h => by rw [ft_rd ht] at h; cases h.1
    refine ⟨fun hS => ?_, fun hlt => hI.anc hD ho hd (h1 hlt)⟩
    rcases Nat.lt_or_ge i j with hlt | hge
    · exact hlt
    · exact absurd (hI.ancS hD hS (h2 (by omega))) hj
  refine ⟨h1, ?_, ?_, ?_⟩
  · intro i oi hmi hij hi
    cases hw : wrtO E oi with
    | false => rfl
    | true =>
      have := (h1 i oi hi hw (by omega)).2 hij
      have := (hI.wm.2 i oi hi hw).1 this
      omega
  · intro hwo i oi hji him hi
    cases hw : wrtO E oi with
    | false => rfl
    | true =>
      have hne : i ≠ j := fun h => by subst h; rw [ho] at hi; injection hi with hi; subst hi; rw [hw] at hwo; cases hwo
      have := (hI.wm.2 i oi hi hw).2 him
      have := (h1 i oi hi hw hne).1 this
      omega
  · intro hwo
    rcases Nat.lt_or_ge j m with hlt | hge
    · exact absurd ((hI.wm.2 j o ho hwo).2 hlt) hj
    · exact hge
/-- The block that an operation reads alone is, where the writers' order stands now, as it is where the run reads it; where it asks the elements' type alone, that is. -/
theorem Inv.cutRd (hI : Inv E ops tr μ0 w0 S m μ a w) (hD : DS E ops) (hT : Trc E call ops tr) {j : Nat} {o : Oper} (ho : ops[j]? = some o) (hj : ¬ S j) (hd : ∀ i ∈ direct o, S i) (hrd : rdO o = true) {id : Nat} {b : Blk} {g : Nat}
    (hb : (tr j).heap[id]? = some (some b)) (hg : tagE E ops o = some g) (hbg : b.elem = g) (hdf : difO E (ev (tr j).tmps) o.op = true) (hidx : ∀ t x, o.op = .load t x → ∃ r q, ev (tr j).tmps x = .w (.lf (.p (some (id, r, q))))) :
    ∃ c b', Cut ops tr m id c ∧ (tr c).heap[id]? = some (some b') ∧ b'.elem = b.elem ∧ (slO o = false → b' = b) ∧ ((c ≤ j) ∨ (j ≤ c ∧ b' = b ∧ Sm tr id j c)) := by
  have hjn : j < ops.size := (Array.getElem?_eq_some_iff.1 ho).1
  have hid : id < (tr j).heap.length := (List.getElem?_eq_some_iff.1 hb).1
  -- an operation between that is out of order with this one leaves the block as it is
  have out : ∀ (k : Nat) (ok : Oper), ops[k]? = some ok → wrtO E ok = true → (k < j → ¬ S k) → (j < k → S k) → k ≠ j ∧ ((∃ x, tagE E ops ok = some x ∧ x ≠ g) ∨ (slO o = true ∧ k < j ∧ softW ok = true) ∨ freshW ops k j ok = true ∨ difW E ops ok o = true) := by
    intro k ok hok hw hlo hhi
    have hne : k ≠ j := fun h => by subst h; rw [ho] at hok; injection hok with hok; subst hok; rw [rd_wrt hrd] at hw; cases hw
    refine ⟨hne, ?_⟩
    rcases hD.wt k j ok o hne hok ho hw (rd_tch hrd) with ⟨h1, h2⟩ | ⟨_, h⟩
    · exfalso
      rcases Nat.lt_or_ge k j with hlt | hge
      · exact hlo hlt (hI.anc hD ho hd (h1 hlt))
      · exact hj (hI.ancS hD (hhi (by omega)) (h2 (by omega)))
    · rcases h with ⟨x, y, hx, hy, hxy⟩ | h | h
      · rw [hg] at hy
        injection hy with hy
        exact .inl ⟨x, hx, by rw [hy]; exact hxy⟩
      · exact .inr (.inl h)
      · exact .inr (.inr h)
  have wS : ∀ (k : Nat) (ok : Oper), ops[k]? = some ok → wrtO E ok = true → (S k ↔ k < m) := fun k ok hok hw => hI.wm.2 k ok hok hw
  rcases Nat.lt_or_ge j m with hlt | hge
  · have up : ∀ k, j ≤ k → k ≤ m → (tr k).heap[id]? = some (some b) := by
      intro k hk
      induction hk with
      | refl => intro _; exact hb
      | @step k hk ih =>
        intro hkm
        have hk' : j ≤ k := hk
        have hkn : k < ops.size := by have := hI.wm.1; omega
        have h0 := ih (by omega)
        have hidk : id < (tr k).heap.length := (List.getElem?_eq_some_iff.1 h0).1
        have hok := Array.getElem?_eq_getElem hkn
        rw [← h0]
        cases hw : wrtO E ops[k] with
        | false =>
          obtain ⟨D, hD'⟩ := hT.nw1 hok hw
          rw [hD', List.getElem?_append_left hidk]
        | true =>
          obtain ⟨hne, h | h | h | h⟩ := out k _ hok hw (fun h => by omega) (fun h => (wS k _ hok hw).2 (by omega))
          · obtain ⟨x, hx, hxg⟩ := h
            exact hT.other hok hw hx hidk (.inl h0) (by rw [hbg]; exact Ne.symm hxg)
          · omega
          · exact (hT.fresh hD hok h hid).2
          · exact hT.dif hok ho h hdf hidx
    have hmm := up m (by omega) (Nat.le_refl _)
    exact ⟨m, b, ⟨Nat.le_refl _, hI.wm.1, (List.getElem?_eq_some_iff.1 hmm).1, fun c' hc1 hc2 => by omega⟩, hmm, rfl, fun _ => rfl, .inr ⟨by omega, rfl, fun k h1 h2 => by rw [up k h1 h2, hmm]⟩⟩
  · obtain ⟨c, hcj, hc⟩ := Cut.ex (ops := ops) (tr := tr) hge (show j ≤ ops.size by omega) hid
    have down : ∀ n k, k + n = j → c ≤ k → ∃ b', (tr k).heap[id]? = some (some b') ∧ b'.elem = b.elem ∧ (slO o = false → b' = b) := by
      intro n
      induction n with
      | zero => intro k hk _; have : k = j := by omega
                subst this; exact ⟨b, hb, rfl, fun _ => rfl⟩
      | succ n ih =>
        intro k hk hck
        obtain ⟨b1, h0, he1, hs1⟩ := ih (k + 1) (by omega) (by omega)
        have hkn : k < ops.size := by omega
        have hidk : id < (tr k).heap.length := Nat.lt_of_lt_of_le hc.lt (hT.len hck (by omega))
        have hok := Array.getElem?_eq_getElem hkn
        cases hw : wrtO E ops[k] with
        | false =>
          obtain ⟨D, hD'⟩ := hT.nw1 hok hw
          rw [hD', List.getElem?_append_left hidk] at h0
          exact ⟨b1, h0, he1, hs1⟩
        | true =>
          obtain ⟨hne, h | h | h | h⟩ := out k _ hok hw (fun _ hS => by have := (wS k _ hok hw).1 hS; have := hc.le; omega) (fun h => by omega)
          · obtain ⟨x, hx, hxg⟩ := h
            rw [hT.other hok hw hx hidk (.inr h0) (by rw [he1, hbg]; exact Ne.symm hxg)] at h0
            exact ⟨b1, h0, he1, hs1⟩
          · obtain ⟨b2, h2, he2⟩ := hT.soft hok h.2.2 hidk h0
            exact ⟨b2, h2, by rw [he2, he1], fun hn => by rw [h.1] at hn; cases hn⟩
          · have := (hT.fresh hD hok h hid).1; omega
          · rw [hT.dif hok ho h hdf hidx] at h0
            exact ⟨b1, h0, he1, hs1⟩
    obtain ⟨b', h1, h2, h3⟩ := down (j - c) c (by omega) (Nat.le_refl _)
    exact ⟨c, b', hc, h1, h2, h3, .inl hcj⟩
end
end Go.Ab
