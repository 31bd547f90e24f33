/- The functions that this law reaches: what each computes. Conditions: those that each theorem names. -/
import Derived.Test.YtjbjpdifgfnaeaaWalkAccept
set_option maxRecDepth 100000
set_option maxHeartbeats 4000000
set_option linter.unusedSimpArgs false
set_option linter.unusedVariables false
set_option linter.unnecessarySimpa false
namespace Go.Proofs.Ytjbjpdifgfnaeaa
open Go Go.Ab Go.ChangeShapes Go.WideShapes Go.ChangeAt Go.RowKit
namespace W
/-- The first i elements turned. -/
def mixL {α : Type} (f : Nat → α → α) (xs : List α) (i : Nat) : List α := xs.mapIdx fun k x => if k < i then f k x else x
@[simp] theorem mixL_len {α : Type} (f : Nat → α → α) (xs : List α) (i : Nat) : (mixL f xs i).length = xs.length := by simp [mixL]
theorem mixL_zero {α : Type} (f : Nat → α → α) (xs : List α) : mixL f xs 0 = xs := by
  refine List.ext_getElem? fun k => ?_
  simp [mixL, List.getElem?_mapIdx]
theorem mixL_all {α : Type} (f : Nat → α → α) (xs : List α) {i : Nat} (h : xs.length ≤ i) : mixL f xs i = xs.mapIdx f := by
  refine List.ext_getElem? fun k => ?_
  simp only [mixL, List.getElem?_mapIdx]
  cases hx : xs[k]? with
  | none => rfl
  | some x =>
    have := (List.getElem?_eq_some_iff.1 hx).1
    simp; omega
theorem mixL_at {α : Type} (f : Nat → α → α) (xs : List α) {i k : Nat} (h : i ≤ k) : (mixL f xs i)[k]? = xs[k]? := by
  simp only [mixL, List.getElem?_mapIdx]
  cases hx : xs[k]? with
  | none => rfl
  | some x => simp; omega
theorem mixL_step {α : Type} (f : Nat → α → α) (xs : List α) {i : Nat} (h : i < xs.length) : (mixL f xs i).set i (f i xs[i]) = mixL f xs (i + 1) := by
  refine List.ext_getElem? fun k => ?_
  rw [List.getElem?_set]
  split
  · rename_i he
    subst he
    simp [mixL, h]
  · rename_i he
    simp only [mixL, List.getElem?_mapIdx]
    cases hx : xs[k]? with
    | none => rfl
    | some x =>
      simp only [Option.map_some]
      congr 1
      split
      · rw [if_pos (by omega)]
      · rw [if_neg (by omega)]
theorem mixL_same {α : Type} (f : Nat → α → α) (xs : List α) {i : Nat} (h : i < xs.length) (he : f i xs[i] = xs[i]) : mixL f xs (i + 1) = mixL f xs i := by
  rw [← mixL_step f xs h, he]
  refine List.ext_getElem? fun k => ?_
  rw [List.getElem?_set]
  split
  · rename_i he
    subst he
    rw [mixL_at f xs (Nat.le_refl _), List.getElem?_eq_getElem h]
    simp [h]
  · rfl

/-- Elements made one behind the other. -/
def upto {α : Type} (f : Nat → List α) : Nat → List α
  | 0 => []
  | i + 1 => upto f i ++ f i
theorem upto_len {α : Type} {f : Nat → List α} (h : ∀ i, (f i).length ≤ 1) : ∀ i, (upto f i).length ≤ i
  | 0 => by simp [upto]
  | i + 1 => by
    have := upto_len h i
    have := h i
    simp [upto]; omega
theorem upto_all {α : Type} {f : Nat → List α} {p : α → Prop} (h : ∀ i, ∀ x ∈ f i, p x) : ∀ i, ∀ x ∈ upto f i, p x
  | 0 => by simp [upto]
  | i + 1 => by
    intro x hx
    rw [upto, List.mem_append] at hx
    rcases hx with hx | hx
    · exact upto_all h i x hx
    · exact h i x hx

def keyP (p : Port) : Bool × Vec × Int := (p.has, p.vec, p.hops)
theorem rootSkip_key {b c : Bridge} {p q : Port} (hi : b.id = c.id) (h : keyP p = keyP q) : rootSkip b p = rootSkip c q := by
  simp only [keyP, Prod.mk.injEq] at h
  unfold rootSkip
  rw [h.1, h.2.1, h.2.2, hi]
theorem getD_key {xs ys : List Port} (h : xs.map keyP = ys.map keyP) (k : Nat) : keyP (xs.getD k default) = keyP (ys.getD k default) := by
  have hg : (xs[k]?).map keyP = (ys[k]?).map keyP := by rw [← List.getElem?_map, ← List.getElem?_map, h]
  rw [List.getD_eq_getElem?_getD, List.getD_eq_getElem?_getD]
  cases hb : xs[k]? <;> cases hc : ys[k]? <;> simp [hb, hc] at hg ⊢
  exact hg
theorem rootUpto_key {b c : Bridge} (hi : b.id = c.id) (h : b.ports.map keyP = c.ports.map keyP) : ∀ i, rootUpto b i = rootUpto c i
  | 0 => rfl
  | i + 1 => by
    have ih := rootUpto_key hi h i
    have hg : (b.ports[i]?).map keyP = (c.ports[i]?).map keyP := by rw [← List.getElem?_map, ← List.getElem?_map, h]
    rw [rootUpto, rootUpto]
    cases hb : b.ports[i]? <;> cases hc : c.ports[i]? <;> simp [hb, hc] at hg
    · exact ih
    · rename_i p q
      have hv := getD_key h (rootUpto c i).toNat
      have h2 := rootSkip_key hi hg
      simp only [keyP, Prod.mk.injEq] at hv hg
      simp only [rootStep, h2, ih, hv.2.1, hg.2.1]
theorem rootAt_key {b c : Bridge} (hi : b.id = c.id) (h : b.ports.map keyP = c.ports.map keyP) : rootAt b = rootAt c := by
  have hl : b.ports.length = c.ports.length := by simpa using congrArg List.length h
  unfold rootAt
  rw [rootUpto_key hi h, hl]
def ownV (b : Bridge) (port : Int) : Vec := if rootAt b < 0 then ⟨b.id, 0, b.id, port⟩ else ⟨(b.ports.getD (rootAt b).toNat default).vec.root, (b.ports.getD (rootAt b).toNat default).vec.cost + 1, b.id, port⟩
def hopsB (b : Bridge) : Int := if rootAt b < 0 then 0 else (b.ports.getD (rootAt b).toNat default).hops + 1
theorem ownV_key {b c : Bridge} (hi : b.id = c.id) (h : b.ports.map keyP = c.ports.map keyP) (port : Int) : ownV b port = ownV c port := by
  have hv := getD_key h (rootAt c).toNat
  simp only [keyP, Prod.mk.injEq] at hv
  unfold ownV
  rw [rootAt_key hi h, hi, hv.2.1]
theorem hopsB_key {b c : Bridge} (hi : b.id = c.id) (h : b.ports.map keyP = c.ports.map keyP) : hopsB b = hopsB c := by
  have hv := getD_key h (rootAt c).toNat
  simp only [keyP, Prod.mk.injEq] at hv
  unfold hopsB
  rw [rootAt_key hi h, hv.2.2]
theorem Port.ok_bd {p : Port} (h : p.ok = true) : 0 ≤ p.vec.cost ∧ p.vec.cost ≤ 20 ∧ 0 ≤ p.hops ∧ p.hops ≤ 8 := by
  obtain ⟨a1, a2, ⟨b1, b2, b3, b4⟩, a4, a5, a6, a7, a8⟩ := p
  cases a2
  · simp [Port.ok] at h
    simp only
    omega
  · simp [Port.ok, Vec.ok] at h
    simp only
    omega
theorem Bridge.ok_all {b : Bridge} (h : b.ok = true) : (∀ p ∈ b.ports, p.ok = true) ∧ 1 ≤ b.id ∧ b.id ≤ 9 ∧ 1 ≤ b.ports.length ∧ b.ports.length ≤ 4 := by
  simp [Bridge.ok] at h
  refine ⟨h.1.1, ?_⟩
  omega
theorem Bridge.ok_of {b : Bridge} (h1 : ∀ p ∈ b.ports, p.ok = true) (h2 : 1 ≤ b.id ∧ b.id ≤ 9 ∧ 1 ≤ b.ports.length ∧ b.ports.length ≤ 4) : b.ok = true := by
  simp [Bridge.ok]
  refine ⟨⟨h1, ?_⟩, ?_⟩ <;> omega
theorem Bridge.ok_at {b : Bridge} (h : b.ok = true) {i : Nat} (hi : i < b.ports.length) : b.ports[i].ok = true := (Bridge.ok_all h).1 _ (List.getElem_mem hi)

def tickB (b : Bridge) : Bridge := ⟨b.id, b.ports.mapIdx fun _ p => tickP p⟩
theorem mapIdx_ok {f : Nat → Port → Port} {b : Bridge} (h : b.ok = true) (hf : ∀ i p, p.ok = true → (f i p).ok = true) : (⟨b.id, b.ports.mapIdx f⟩ : Bridge).ok = true := by
  obtain ⟨h1, h2⟩ := Bridge.ok_all h
  refine Bridge.ok_of (fun p hp => ?_) (by simpa using h2)
  rw [List.mem_mapIdx] at hp
  obtain ⟨i, hi, rfl⟩ := hp
  exact hf _ _ (h1 _ (List.getElem_mem hi))
theorem tickB_ok {b : Bridge} (h : b.ok = true) : (tickB b).ok = true := mapIdx_ok h fun _ _ hp => tickP_ok hp

def roleB (b : Bridge) (i : Nat) (p : Port) : Int := if (i : Int) = rootAt b then 1 else if (p.has && better p.vec (ownV b i)) = true then 3 else 2
def decP (b : Bridge) (i : Nat) (p : Port) : Port := if p.up = true then turnP p (roleB b i p) else p
def decideB (b : Bridge) : Bridge := ⟨b.id, b.ports.mapIdx (decP b)⟩
theorem decP_key (b : Bridge) (i : Nat) (p : Port) : keyP (decP b i p) = keyP p := by
  unfold decP
  split
  · have := turnP_rest p (roleB b i p)
    simp [keyP, this]
  · rfl
theorem decP_ok (b : Bridge) (i : Nat) {p : Port} (h : p.ok = true) : (decP b i p).ok = true := by
  unfold decP
  split
  · exact turnP_ok _ h
  · exact h
theorem decideB_ok {b : Bridge} (h : b.ok = true) : (decideB b).ok = true := mapIdx_ok h fun i _ hp => decP_ok b i hp
/-- The bridge of which the first ports are decided. -/
def decU (b : Bridge) (i : Nat) : Bridge := ⟨b.id, mixL (decP b) b.ports i⟩
theorem decU_key (b : Bridge) (i : Nat) : (decU b i).ports.map keyP = b.ports.map keyP := by
  refine List.ext_getElem? fun k => ?_
  simp only [decU, mixL, List.getElem?_map, List.getElem?_mapIdx, Option.map_map]
  cases b.ports[k]? with
  | none => rfl
  | some p =>
    simp only [Option.map_some, Function.comp]
    congr 1
    split
    · exact decP_key _ _ _
    · rfl
theorem decU_ok {b : Bridge} (h : b.ok = true) (i : Nat) : (decU b i).ok = true := mapIdx_ok (f := fun k x => if k < i then decP b k x else x) h fun k p hp => by
  split
  · exact decP_ok b k hp
  · exact hp
theorem decideB_key (b : Bridge) : (decideB b).ports.map keyP = b.ports.map keyP := by
  have := decU_key b b.ports.length
  unfold decU at this
  rwa [mixL_all _ _ (Nat.le_refl _)] at this

theorem leave_both (H H' : Heap) (ws : List W) : leave H H' ws = H' ∨ (leave H H' ws = H ∧ ws.all W.free = true ∧ ∃ G, H' = H ++ G) := by
  unfold leave
  split
  · rename_i h
    refine .inr ⟨rfl, h.1, H'.drop H.length, ?_⟩
    have := List.take_append_drop H.length H'
    rw [h.2] at this
    exact this.symm
  · exact .inl rfl
theorem grow_next {H2 H' H'' T : Heap} {fp' fp'' : List Nat} (hK : Keep [] H2 H') (hf : ∀ j ∈ fp', H2.length ≤ j) (hk : Keep fp' (H' ++ T) H'') (h : ∀ j ∈ fp'', j ∈ fp' ∨ (H' ++ T).length ≤ j) : Keep [] H2 H'' ∧ ∀ j ∈ fp'', H2.length ≤ j := by
  have h1 := hK.1
  refine ⟨(Keep.trans (h := []) hK (Keep.app [] H' T) (by simp) (by simp)).next hk hf, fun j hj => ?_⟩
  rcases h j hj with h2 | h2
  · exact hf j h2
  · rw [List.length_append] at h2; omega
theorem keep_more0 {H H' : Heap} (h : Keep [] H H') (T : Heap) : Keep [] H (H' ++ T) := Keep.trans (h := []) h (Keep.app [] _ _) (by simp) (by simp)

def upPort : Port := ⟨true, false, ⟨0, 0, 0, 0⟩, 0, 0, 3, 0, false⟩
def inB (b : Bridge) (x : In) : Bridge := if x.kind = 1 then ⟨b.id, b.ports.set x.port.toNat (claimP (b.ports.getD x.port.toNat default) x.vec x.hops)⟩ else if x.kind = 2 then tickB b else ⟨b.id, b.ports.set x.port.toNat (if x.up = true then upPort else Port.zv)⟩
/-- A link that is as it was: nothing turns. -/
def quiet (b : Bridge) (x : In) : Prop := x.kind = 3 ∧ (b.ports.getD x.port.toNat default).up = x.up
instance (b : Bridge) (x : In) : Decidable (quiet b x) := inferInstanceAs (Decidable (_ ∧ _))
def nextB (b : Bridge) (x : In) : Bridge := if quiet b x then b else decideB (inB b x)
theorem inB_id (b : Bridge) (x : In) : (inB b x).id = b.id := by unfold inB; split <;> (try split) <;> rfl
theorem inB_len (b : Bridge) (x : In) : (inB b x).ports.length = b.ports.length := by unfold inB; split <;> (try split) <;> simp [tickB]
theorem set_ok {b : Bridge} (h : b.ok = true) {k : Nat} {p : Port} (hp : p.ok = true) : (⟨b.id, b.ports.set k p⟩ : Bridge).ok = true := by
  obtain ⟨h1, h2⟩ := Bridge.ok_all h
  refine Bridge.ok_of (fun q hq => ?_) (by simpa using h2)
  rcases List.mem_or_eq_of_mem_set hq with hq | rfl
  · exact h1 _ hq
  · exact hp
theorem upPort_ok : upPort.ok = true := by decide
theorem zv_ok : Port.zv.ok = true := by decide
theorem inB_ok {b : Bridge} {x : In} (h : b.ok = true) (hk : x.port.toNat < b.ports.length) : (inB b x).ok = true := by
  unfold inB
  split
  · refine set_ok h (claimP_ok _ _ ?_)
    simp only [List.getD, List.getElem?_eq_getElem hk, Option.getD_some]
    exact Bridge.ok_at h hk
  · split
    · exact tickB_ok h
    · refine set_ok h ?_
      split
      · exact upPort_ok
      · exact zv_ok
theorem nextB_ok {b : Bridge} {x : In} (h : b.ok = true) (hk : x.port.toNat < b.ports.length) : (nextB b x).ok = true := by
  unfold nextB
  split
  · exact h
  · exact decideB_ok (inB_ok h hk)
theorem nextB_id (b : Bridge) (x : In) : (nextB b x).id = b.id := by
  unfold nextB; split
  · rfl
  · simp [decideB, inB_id]
theorem nextB_len (b : Bridge) (x : In) : (nextB b x).ports.length = b.ports.length := by
  unfold nextB; split
  · rfl
  · simp [decideB, inB_len]
theorem In.ok_kind {x : In} (h : x.ok = true) : (x.kind = 1 ∨ x.kind = 2 ∨ x.kind = 3) ∧ 0 ≤ x.port ∧ x.port ≤ 3 := by
  unfold In.ok at h
  split at h
  · rename_i h1
    simp at h
    exact ⟨.inl h1, h.1.1.1⟩
  · split at h
    · rename_i h1
      simp at h
      exact ⟨.inr (.inr h1), h.1.1⟩
    · simp at h
      rw [h]
      decide

def gateAt (b c : Bridge) (i : Nat) : List Out := match b.ports[i]?, c.ports[i]? with
  | some p, some q => if q.opn = p.opn then [] else [⟨2, i, ⟨0, 0, 0, 0⟩, 0, q.opn⟩]
  | _, _ => []
def claimAt (c : Bridge) (i : Nat) : List Out := match c.ports[i]? with
  | some q => if q.role = 2 then [⟨1, i, ownV c i, hopsB c, false⟩] else []
  | none => []
theorem gateAt_len (b c : Bridge) (i : Nat) : (gateAt b c i).length ≤ 1 := by
  unfold gateAt; split
  · split <;> simp
  · simp
theorem claimAt_len (c : Bridge) (i : Nat) : (claimAt c i).length ≤ 1 := by
  unfold claimAt; split
  · split <;> simp
  · simp
theorem gateAt_same (b : Bridge) : ∀ i, upto (gateAt b b) i = []
  | 0 => rfl
  | i + 1 => by
    rw [upto, gateAt_same b i]
    unfold gateAt
    cases b.ports[i]? <;> simp
def outsB (b c : Bridge) (x : In) : List Out := upto (gateAt b c) b.ports.length ++ (if x.kind = 2 then upto (claimAt c) b.ports.length else [])
def reactB (b : Bridge) (x : In) : Bridge × List Out := if (b.ok && x.ok && decide (x.port < b.ports.length)) = true then (nextB b x, outsB b (nextB b x) x) else (b, [])
theorem reactB_yes {b : Bridge} {x : In} (h1 : b.ok = true) (h2 : x.ok = true) (h3 : x.port < b.ports.length) : reactB b x = (nextB b x, outsB b (nextB b x) x) := by simp [reactB, h1, h2, h3]
theorem reactB_no {b : Bridge} {x : In} (h : ¬ (b.ok = true ∧ x.ok = true ∧ x.port < b.ports.length)) : reactB b x = (b, []) := by
  unfold reactB
  rw [if_neg]
  simp
  intro h1 h2
  exact Int.not_lt.1 fun h3 => h ⟨h1, h2, h3⟩
theorem quiet_outs {b : Bridge} {x : In} (h : quiet b x) : outsB b (nextB b x) x = [] := by
  unfold outsB nextB
  rw [if_pos h, gateAt_same, if_neg (by rw [h.1]; decide)]
  rfl
theorem outsB_len (b c : Bridge) (x : In) : (outsB b c x).length ≤ 2 * b.ports.length := by
  unfold outsB
  have h1 := upto_len (gateAt_len b c) b.ports.length
  have h2 := upto_len (claimAt_len c) b.ports.length
  rw [List.length_append]
  split
  · omega
  · simp; omega
theorem reactB_id (b : Bridge) (x : In) : (reactB b x).1.id = b.id := by
  unfold reactB; split
  · exact nextB_id b x
  · rfl
theorem reactB_len (b : Bridge) (x : In) : (reactB b x).1.ports.length = b.ports.length := by
  unfold reactB; split
  · exact nextB_len b x
  · rfl
theorem reactB_outs (b : Bridge) (x : In) : (reactB b x).2.length ≤ 2 * b.ports.length := by
  unfold reactB; split
  · exact outsB_len _ _ _
  · simp
theorem reactB_ok {b : Bridge} (x : In) (h : b.ok = true) : (reactB b x).1.ok = true := by
  unfold reactB; split
  · rename_i h1
    simp at h1
    have := (In.ok_kind h1.1.2).2
    exact nextB_ok h (by omega)
  · exact h

theorem grow_next0 {H2 H' H'' T : Heap} {fp0 fp' fp'' : List Nat} (hK : Keep fp0 H2 H') (hf : ∀ j ∈ fp', j ∈ fp0 ∨ H2.length ≤ j) (hk : Keep fp' (H' ++ T) H'') (h : ∀ j ∈ fp'', j ∈ fp' ∨ (H' ++ T).length ≤ j) : Keep fp0 H2 H'' ∧ ∀ j ∈ fp'', j ∈ fp0 ∨ H2.length ≤ j := by
  have h1 := hK.1
  refine ⟨Keep.trans (h := fp0) (Keep.trans (h := fp0) hK (Keep.app [] H' T) (fun _ hi _ => hi) (by simp)) hk (fun _ hi _ => hi) (fun i hi hl => (hf i hi).resolve_right (by omega)), fun j hj => ?_⟩
  rcases h j hj with h2 | h2
  · exact hf j h2
  · rw [List.length_append] at h2; omega

def stepBr (b : Bridge) (x : In) : Bridge := (reactB b x).1
def bridgeOf (id ports : Int) (log : List In) : Bridge := log.foldl stepBr (bridgeNew id ports).1
theorem bridgeOf_step (id ports : Int) (log : List In) {i : Nat} (h : i < log.length) : bridgeOf id ports (log.take (i + 1)) = stepBr (bridgeOf id ports (log.take i)) log[i] := by
  unfold bridgeOf
  rw [List.take_add_one, List.getElem?_eq_getElem h, List.foldl_append]
  rfl
theorem bridgeOf_len (id ports : Int) (log : List In) : (bridgeOf id ports log).ports.length ≤ 4 := by
  have key : ∀ (log : List In) (b : Bridge), b.ports.length ≤ 4 → (log.foldl stepBr b).ports.length ≤ 4 := by
    intro log
    induction log with
    | nil => intro b h; exact h
    | cons x xs ih => intro b h; exact ih _ (by rw [stepBr, reactB_len]; exact h)
  refine key log _ ?_
  unfold bridgeNew
  split
  · rename_i h
    simp at h ⊢
    omega
  · simp
theorem bridgeOf_sz0 {id ports : Int} {log : List In} (_ : log.length ≤ 1048576) : (bridgeOf id ports log).sz ≤ 1048576 := by
  have := bridgeOf_len id ports log
  have h2 : (bridgeOf id ports log).sz = (bridgeOf id ports log).ports.length := rfl
  omega
theorem bridgeOf_bad {id ports : Int} (h : (bridgeNew id ports).2 = false) (log : List In) : bridgeOf id ports log = ⟨0, []⟩ := by
  have h0 : (bridgeNew id ports).1 = ⟨0, []⟩ := by
    unfold bridgeNew at h ⊢
    split at h
    · simp at h
    · rename_i h1; rw [if_neg h1]
  have key : ∀ log : List In, log.foldl stepBr ⟨0, []⟩ = ⟨0, []⟩ := by
    intro log
    induction log with
    | nil => rfl
    | cons x xs ih =>
      have : stepBr ⟨0, []⟩ x = ⟨0, []⟩ := by
        rw [stepBr, reactB_no (by intro h; have := h.1; simp [Bridge.ok] at this)]
      rw [List.foldl_cons, this, ih]
  unfold bridgeOf
  rw [h0, key]

theorem sl_take {H : Heap} {e : Nat} {a : Option (Nat × Nat)} {rows : List (List Lf)} (h : Sl H e a rows) (n : Nat) : Sl H e a (rows.take n) := fun i row hr => by
  rw [List.getElem?_take] at hr
  split at hr
  · exact h i row hr
  · cases hr
theorem sl_nil {H : Heap} {e : Nat} {rows : List (List Lf)} (h : Sl H e none rows) : rows = [] := by
  cases rows with
  | nil => rfl
  | cons x xs => obtain ⟨_, _, _, h0, _⟩ := h 0 _ rfl; cases h0
theorem sl_drop {H : Heap} {e id r : Nat} {rows : List (List Lf)} (h : Sl H e (some (id, r)) rows) (n : Nat) : Sl H e (some (id, r + n)) (rows.drop n) := fun i row hr => by
  rw [List.getElem?_drop] at hr
  obtain ⟨id', r', b, hx, hb, he, hrow⟩ := h _ row hr
  cases hx
  exact ⟨id, r + n, b, rfl, hb, he, by rw [Nat.add_assoc]; exact hrow⟩

def judgeGates (x : Box) : Bool := x.ok && decide (x.gates = gates (bridgeOf x.id x.ports x.line))
theorem Box.ok_ids {x : Box} (h : x.ok = true) : (1 ≤ x.id ∧ x.id ≤ 9) ∧ (1 ≤ x.ports ∧ x.ports ≤ 4) ∧ x.line.length ≤ 60 ∧ (x.gates.length : Int) = x.ports := by
  unfold Box.ok at h
  simp only [Bool.and_eq_true, decide_eq_true_eq] at h
  obtain ⟨⟨⟨⟨⟨⟨⟨⟨h1, -⟩, -⟩, -⟩, -⟩, -⟩, h2⟩, h3⟩, -⟩ := h
  have hb : (1 ≤ x.id ∧ x.id ≤ 9) ∧ (1 ≤ x.ports ∧ x.ports ≤ 4) := by
    unfold bridgeNew at h1
    split at h1
    · rename_i hh; simp at hh; exact hh
    · simp at h1
  refine ⟨hb.1, hb.2, ?_, h2⟩
  simp [logOk] at h3
  omega

def saidAt (id ports : Int) (log : List In) (i : Nat) : List Out := (reactB (bridgeOf id ports (log.take i)) (log.getD i default)).2
def lastL (l : List Out) : List Out := l.drop (l.length - 40)
def judgeSaid (x : Box) : Bool := x.ok && decide (x.said = lastL (upto (saidAt x.id x.ports x.line) x.line.length))
theorem saidAt_len (id ports : Int) (log : List In) (i : Nat) : (saidAt id ports log i).length ≤ 8 := by
  unfold saidAt
  have h1 := reactB_outs (bridgeOf id ports (log.take i)) (log.getD i default)
  have h2 := bridgeOf_len id ports (log.take i)
  omega
theorem said_len (id ports : Int) (log : List In) : ∀ i, (upto (saidAt id ports log) i).length ≤ 8 * i
  | 0 => by simp [upto]
  | i + 1 => by
    have := said_len id ports log i
    have := saidAt_len id ports log i
    simp [upto]; omega

theorem lastSaid {H : Heap} {q : Lf} {xs : List Out} {fp : List Nat} (h : IsOutS H q xs fp) (hn : xs.length ≤ 4194304) : Runs env 141 [.w (.lf q)] H fun v H' => ∃ q' fp, v = .w (.lf q') ∧ IsOutS H' q' (lastL xs) fp ∧ Fresh H H' fp := by
  obtain ⟨a, rfl, ho⟩ := h
  have hs := ho.sl
  have g : IntKind.i64.wrap ((xs.length : Int) - 40) = (xs.length : Int) - 40 := wrap64 (by omega) (by omega)
  obtain ⟨k, hk⟩ : ∃ k : Nat, k = xs.length - 40 := ⟨_, rfl⟩
  have hm : (if (xs.length : Int) - 40 < 0 then (0 : Int) else (xs.length : Int) - 40) = k := by split <;> omega
  have hkl : k ≤ xs.length := by omega
  refine Runs.walk ok141 Try.func141 rfl (by simp [Try.f141]) fun Q hQ => ?_
  simp only [Try.f141, strip, stripL, stripI, stripG, chkT, tagsB, tagsL, tagD, addT, tagA, lookN, tagOp, elmT, ty22, ty23, ty28, ty29, ty37, ty38, ty39, ty40, ty41, ty50, ty51, ty52, ty53, ty72, ty81, ty141, ty189, Nat.reduceEqDiff, if_false, reduceIte, Option.getD_some, Option.getD_none, dstAt, dstOk, Nat.reduceLT, decide_true, if_true]
  simp [builtinV, pureB, lenV, g, foldI, hm]
  have hRk : ∃ q2, sliceV env.τ H 41 (.w (.lf (.sl a xs.length))) (some (.int k)) none none = some (.w (.lf q2), H) ∧ RdOutS H q2 (lastL xs) := by
    cases a with
    | none =>
      have hx := sl_nil hs
      simp at hx
      subst hx
      refine ⟨.sl none 0, ?_, none, rfl, Sl.nil _ _ _⟩
      have hk0 : k = 0 := by simp at hk; exact hk
      subst hk0
      simp [sliceV, elemIs, bnd]
    | some p =>
      obtain ⟨id, r⟩ := p
      have hbl : ∃ bl, blkAt H id = some bl ∧ bl.elem = 113 := by
        rcases ho with ⟨hx, -⟩ | ⟨id', b, hx, -, hb, he, -⟩
        · cases hx
        · cases hx; exact ⟨b, hb, he⟩
      obtain ⟨bl, hbl, hbe⟩ := hbl
      refine ⟨.sl (some (id, r + k)) (xs.length - k), ?_, some (id, r + k), by simp [lastL, hk], ?_⟩
      · simp [sliceV, elemIs, bnd, hbl, hbe, hkl]
      · have := sl_drop hs k
        rw [lastL, ← hk, List.map_drop]
        exact this
  obtain ⟨q2, hq2, hR2⟩ := hRk
  simp [hq2]
  refine stpL_runs (cloneOutS hR2 (by simp [lastL]; omega)) ?_
  rintro _ _ ⟨q9, f9, rfl, o9, ⟨⟨G2, rfl⟩, hf⟩⟩
  simp
  refine hQ _ _ _ (by simp) ?_
  simp [Try.f141]
  exact o9.leave (Fresh.app H _ hf) (by simp)

def zM : Minder := ⟨false, 0, 0, [], 0, 0, 0⟩
def mindsAt (x : Box) (s : Int) : Bool := (decide (0 ≤ s) && decide (s ≤ (x.two.length : Int) - 1)) && minds x.reg s (x.two.getD s.toNat zM)
def whoM (x : Box) : Int := if minds x.reg 0 (x.two.getD 0 zM) = true then 0 else if minds x.reg 1 (x.two.getD 1 zM) = true then 1 else -1
theorem whoM_cases (x : Box) : (whoM x = 0 ∧ minds x.reg 0 (x.two.getD 0 zM) = true) ∨ (whoM x = 1 ∧ minds x.reg 1 (x.two.getD 1 zM) = true) ∨ (whoM x = -1 ∧ minds x.reg 0 (x.two.getD 0 zM) = false ∧ minds x.reg 1 (x.two.getD 1 zM) = false) := by
  unfold whoM
  cases h0 : minds x.reg 0 (x.two.getD 0 zM) <;> cases h1 : minds x.reg 1 (x.two.getD 1 zM) <;> simp
theorem minds_one (r : Reg) (m n : Minder) : ¬ (minds r 0 m = true ∧ minds r 1 n = true) := by
  unfold minds
  rintro ⟨h1, h2⟩
  simp at h1 h2
  omega

theorem l14Minds {H : Heap} {l : List Lf} {x : Box} (h : RdBox H l x) (hn : x.sz ≤ 1048576) (s : Int) : run env 83 [.agg l, .int s] H = some (.bool (mindsAt x s), H) := by
  obtain ⟨_, _, _, _, _, rfl, ⟨a0, rws, rfl, hs, hlen, hat⟩, -⟩ := h
  unfold Box.sz at hn
  have hl0 := MinderS.sz_len x.two
  have g : IntKind.i64.wrap ((x.two.length : Int) - 1) = (x.two.length : Int) - 1 := wrap64 (by omega) (by omega)
  refine run_walk ok83 Try.func83 rfl (by simp [Try.f83]) fun Q hQ => ?_
  simp only [Try.f83, strip, stripL, stripI, stripG, chkT, tagsB, tagsL, tagD, addT, tagA, lookN, tagOp, elmT, ty22, ty23, ty28, ty29, ty37, ty38, ty39, ty40, ty41, ty50, ty51, ty52, ty53, ty72, ty81, ty141, ty189, Nat.reduceEqDiff, if_false, reduceIte, Option.getD_some, Option.getD_none, dstAt, dstOk, Nat.reduceLT, decide_true, if_true]
  simp [Box.enc, builtinV, pureB, lenV, g]
  by_cases hc : 0 ≤ s ∧ s ≤ (x.two.length : Int) - 1
  · obtain ⟨k, rfl⟩ : ∃ k : Nat, s = k := ⟨s.toNat, by omega⟩
    have hk : k < x.two.length := by omega
    have hri : k < rws.length := by omega
    obtain ⟨id2, r, bl, rfl, hbl, hbe, hrow⟩ := hs k _ (List.getElem?_eq_getElem hri)
    have hid := blkAt_len hbl
    have he := hat k _ _ (List.getElem?_eq_getElem hri) (List.getElem?_eq_getElem hk)
    have hL := he.len
    have hT : rws[k].take rws[k].length = rws[k] := List.take_length
    rw [hL] at hT
    have hszi := MinderS.sz_at (List.getElem_mem hk)
    have e1 := fun G => specMinds_is (he.app G) (by omega) x.reg (k : Int) ⟨by omega, by omega⟩
    simp only [Reg.enc] at e1
    have hkl : (k : Int) ≤ (x.two.length : Int) - 1 := by omega
    have hm : mindsAt x k = minds x.reg k x.two[k] := by
      unfold mindsAt
      simp [hkl, List.getD, List.getElem?_eq_getElem hk]
    simp [l1In, hkl, indexAddrV, elemIs, hid, hbl, hbe, hk, hrow, hL, hT, e1]
    refine hQ _ _ _ (by simp) ?_
    simp [Try.f83, hm]
  · have hcf : (decide (0 ≤ s) && decide (s ≤ (x.two.length : Int) - 1)) = false := by
      rw [Bool.and_eq_false_iff]; simp; omega
    simp [l1In, hcf]
    refine hQ _ _ _ (by simp) ?_
    simp [Try.f83, mindsAt, hcf]

theorem nd5 {f0 f1 f2 f3 f4 : List Nat} (n0 : f0.Nodup) (n1 : f1.Nodup) (n2 : f2.Nodup) (n3 : f3.Nodup) (n4 : f4.Nodup) {a b c d e : Nat} (h1 : ∀ i ∈ f1, a ≤ i ∧ i < b) (h2 : ∀ i ∈ f2, b ≤ i ∧ i < c) (h3 : ∀ i ∈ f3, c ≤ i ∧ i < d) (h4 : ∀ i ∈ f4, d ≤ i ∧ i < e) (h0 : ∀ i ∈ f0, i < a ∨ e ≤ i)
    (hab : a ≤ b) (hbc : b ≤ c) (hcd : c ≤ d) (hde : d ≤ e) : (f0 ++ (f1 ++ (f2 ++ (f3 ++ f4)))).Nodup := by
  refine nodup_app n0 (nodup_app n1 (nodup_app n2 (nodup_app n3 n4 fun i hi hj => ?_) fun i hi hj => ?_) fun i hi hj => ?_) fun i hi hj => ?_
  · have := h3 i hi; have := h4 i hj; omega
  · have := h2 i hi
    rcases List.mem_append.1 hj with hj | hj
    · have := h3 i hj; omega
    · have := h4 i hj; omega
  · have := h1 i hi
    rcases List.mem_append.1 hj with hj | hj
    · have := h2 i hj; omega
    · rcases List.mem_append.1 hj with hj | hj
      · have := h3 i hj; omega
      · have := h4 i hj; omega
  · have := h0 i hi
    rcases List.mem_append.1 hj with hj | hj
    · have := h1 i hj; omega
    · rcases List.mem_append.1 hj with hj | hj
      · have := h2 i hj; omega
      · rcases List.mem_append.1 hj with hj | hj
        · have := h3 i hj; omega
        · have := h4 i hj; omega
/-- One element more, in memory that grew. -/
theorem isL_snoc {α : Type} {R : Heap → List Lf → α → List Nat → Prop} {e : Nat} {H1 H2 H3 : Heap} {a' : Option (Nat × Nat)} {rows : List (List Lf)} {xs : List α} {fp0 fp0' f : List Nat} {fps : List (List Nat)} {row : List Lf} {x : α} (ok : RepOk R) (hp : Part R H1 rows xs fps) (hnd : (fp0 ++ fps.flatten).Nodup) (hlt0 : ∀ i ∈ fp0, i < H1.length)
    (k12 : Keep [] H1 H2) (hr : R H2 row x f) (hf : ∀ i ∈ f, H1.length ≤ i) (k23 : Keep fp0 H2 H3) (ho : Own H3 e a' (rows ++ [row]) fp0') (hf0 : ∀ i ∈ fp0', i ∈ fp0 ∨ H2.length ≤ i) :
    Part R H3 (rows ++ [row]) (xs ++ [x]) (fps ++ [f]) ∧ (fp0' ++ (fps ++ [f]).flatten).Nodup := by
  have hlt := hp.lt ok
  have hfl := ok.lt hr
  have h12 := k12.1
  have hd : ∀ i ∈ fp0, i ∉ fps.flatten := fun i hi hj => (List.nodup_append.1 hnd).2.2 i hi i hj rfl
  have p2 := hp.keep ok k12 (by simp)
  have p3 := p2.keep ok k23 (fun i hi hj => hd i hj hi)
  have r3 := ok.keep hr k23 (fun i hi hj => by have := hf i hi; have := hlt0 i hj; omega)
  refine ⟨p3.snoc ok r3 (fun i hi hj => by have := hf i hi; have := hlt i hj; omega), ?_⟩
  rw [List.flatten_append]
  refine nodup_app ho.nodup (nodup_app hp.nodup (by simpa using ok.nodup hr) fun i hi hj => ?_) fun i hi hj => ?_
  · have := hlt i hi
    simp at hj
    have := hf i hj; omega
  · rcases List.mem_append.1 hj with hj | hj
    · rcases hf0 i hi with h | h
      · exact hd i h hj
      · have := hlt i hj; omega
    · simp at hj
      have := hf i hj
      have := hfl i hj
      rcases hf0 i hi with h | h
      · have := hlt0 i h; omega
      · omega

theorem copyBox {H : Heap} {l : List Lf} {x : Box} (h : RdBox H l x) (hn : x.sz ≤ 1048576) : Runs env 90 [.agg l] H fun v H' => ∃ l' fp, v = .agg l' ∧ IsBox H' l' x fp ∧ Fresh H H' fp := by
  obtain ⟨_, _, _, _, _, rfl, ⟨a0, rws, rfl, hs, hlen, hat⟩, ⟨a1, rfl, r1⟩, ⟨a2, rfl, r2⟩, ⟨a3, rfl, r3⟩, ⟨a4, rfl, r4⟩⟩ := h
  unfold Box.sz at hn
  have hl0 := MinderS.sz_len x.two
  refine Runs.walk ok90 Try.func90 rfl (by simp [Try.f90]) fun Q hQ => ?_
  simp only [Try.f90, strip, stripL, stripI, stripG, chkT, tagsB, tagsL, tagD, addT, tagA, lookN, tagOp, elmT, ty22, ty23, ty28, ty29, ty37, ty38, ty39, ty40, ty41, ty50, ty51, ty52, ty53, ty72, ty81, ty141, ty189, Nat.reduceEqDiff, if_false, reduceIte, Option.getD_some, Option.getD_none, dstAt, dstOk, Nat.reduceLT, decide_true, if_true]
  simp [Box.enc, builtinV, pureB, lenV]
  obtain ⟨Z, hZ⟩ : ∃ Z : List Lf, Z = [.i .i64 0, .i .i64 0, .i .i64 0, .i .i64 0, .i .i64 0, .sl none 0, .sl none 0, .sl none 0, .sl none 0, .sl none 0] := ⟨_, rfl⟩
  obtain ⟨H3, hH3⟩ : ∃ H3 : Heap, H3 = H ++ [some ⟨43, .wr, [x.enc (.sl a0 x.two.length) (.sl a1 x.net.length) (.sl a2 x.gates.length) (.sl a3 x.line.length) (.sl a4 x.said.length)]⟩, some ⟨43, .wr, [Z]⟩, some ⟨43, .wr, [x.enc (.sl none 0) (.sl a1 x.net.length) (.sl a2 x.gates.length) (.sl a3 x.line.length) (.sl a4 x.said.length)]⟩] := ⟨_, rfl⟩
  have b1 : blkAt H3 H.length = some ⟨43, .wr, [x.enc (.sl a0 x.two.length) (.sl a1 x.net.length) (.sl a2 x.gates.length) (.sl a3 x.line.length) (.sl a4 x.said.length)]⟩ := by rw [hH3]; simp
  have b2 : blkAt H3 (H.length + 1) = some ⟨43, .wr, [Z]⟩ := by rw [hH3]; simp
  have b3 : blkAt H3 (H.length + 2) = some ⟨43, .wr, [x.enc (.sl none 0) (.sl a1 x.net.length) (.sl a2 x.gates.length) (.sl a3 x.line.length) (.sl a4 x.said.length)]⟩ := by rw [hH3]; simp
  have k03 : Keep [] H H3 := by rw [hH3]; exact Keep.app _ _ _
  have hl3 : H3.length = H.length + 3 := by rw [hH3]; simp
  have hZl : Z.length = 10 := by rw [hZ]; rfl
  have hHg : H ++ [some ⟨43, .wr, [[.i .i64 x.id, .i .i64 x.ports, .i .i64 x.reg.epoch, .i .i64 x.reg.owner, .i .i64 x.reg.pair, .sl a0 x.two.length, .sl a1 x.net.length, .sl a2 x.gates.length, .sl a3 x.line.length, .sl a4 x.said.length]]⟩, some ⟨43, .wr, [[.i .i64 0, .i .i64 0, .i .i64 0, .i .i64 0, .i .i64 0, .sl none 0, .sl none 0, .sl none 0, .sl none 0, .sl none 0]]⟩, some ⟨43, .wr, [[.i .i64 x.id, .i .i64 x.ports, .i .i64 x.reg.epoch, .i .i64 x.reg.owner, .i .i64 x.reg.pair, .sl none 0, .sl a1 x.net.length, .sl a2 x.gates.length, .sl a3 x.line.length, .sl a4 x.said.length]]⟩] = H3 := by rw [hH3, hZ]; rfl
  rw [hHg]
  clear hHg hH3 hZ
  refine wpS_loop (fun j tm H' => ∃ i a' rows fp0 fps, i + j = x.two.length ∧ tm 1 = .ptr H.length 0 0 ∧ tm 2 = .ptr (H.length + 1) 0 0 ∧ tm 3 = .ptr (H.length + 2) 0 0 ∧ tm 9 = .w (.lf (.sl a0 x.two.length)) ∧ tm 10 = .int x.two.length ∧ tm 11 = .int i ∧ blkAt H' (H.length + 2) = some ⟨43, .wr, [x.enc (.sl a' i) (.sl a1 x.net.length) (.sl a2 x.gates.length) (.sl a3 x.line.length) (.sl a4 x.said.length)]⟩ ∧ Own H' 98 a' rows fp0 ∧ Part IsMinder H' rows (x.two.take i) fps ∧ (fp0 ++ fps.flatten).Nodup ∧ (∀ k ∈ fp0 ++ fps.flatten, H3.length ≤ k) ∧ Keep [H.length + 2] H3 H') x.two.length (by rw [env_K]; omega)
    ⟨0, none, [], [], [], by simp, by simp, by simp, by simp, by simp, by simp, by simp, b3, Own.nil _ _, Part.nil _ _, by simp, by simp, Keep.refl _ _⟩ ?_
  rintro j tm H1 hj ⟨i, a', rows, fp0, fps, hij, t1, t2, t3, t9, t10, t11, c3, ho, hp, hnd, hge, hK3⟩ Q2 hn2 he2 hr2
  have c1 := hK3.blk b1 (by simp)
  have c2 := hK3.blk b2 (by simp)
  have d1 := blkAt_len c1
  have d2 := blkAt_len c2
  have d3 := blkAt_len c3
  have hK : Keep [] H H1 := k03.next hK3 (by simp)
  have h31 := hK3.1
  simp [t9, t10, t11]
  refine selS_intro (fun hc => ?_) (fun hc => ?_)
  · simp at hc
    have hri : i < rws.length := by omega
    obtain ⟨id2, r, bl, rfl, hbl, hbe, hrow⟩ := (hs.keep hK (by simp)) i _ (List.getElem?_eq_getElem hri)
    have hid := blkAt_len hbl
    have he := (hat i _ _ (List.getElem?_eq_getElem hri) (List.getElem?_eq_getElem hc)).base hK
    have hL := he.len
    have hT : rws[i].take rws[i].length = rws[i] := List.take_length
    rw [hL] at hT
    have hszi := MinderS.sz_at (List.getElem_mem hc)
    have g4 : IntKind.i64.wrap ((i : Int) + 1) = (i : Int) + 1 := wrap64 (by omega) (by omega)
    have hrl : rows.length = i := by rw [hp.len]; simp; omega
    simp [t1, t2, t3, t9, t10, t11, c3, d3, Box.enc, indexAddrV, elemIs, hid, hbl, hbe, hc, hrow, hL, hT]
    refine stpL_runs_f (copyMinder (he.app _) (by omega)) (by rintro _ _ ⟨_, _, _, _, hf⟩; exact hf.1) ?_
    rintro _ _ ⟨l2, f2, rfl, o2, ⟨⟨G2, rfl⟩, hf2⟩⟩
    have hl2 := o2.len
    have hT2 : l2.take l2.length = l2 := List.take_length
    rw [hl2] at hT2
    simp [hl2, hT2]
    have hlt0 := ho.lt
    refine stpL_append (e := 98) (rows := rows) (ys := [l2]) (ho.app _) (Sl.of (by simp)) rfl rfl rfl (by simp) (by simp; omega) (by omega) rfl fun a'' H'' fp'' ho'' hk'' hf'' => ?_
    have k12 : Keep [] H1 (H1 ++ some ⟨98, .wr, [rws[i]]⟩ :: (G2 ++ [some ⟨98, .wr, [l2]⟩])) := Keep.app _ _ _
    have o2' := o2.app [some ⟨98, .wr, [l2]⟩]
    simp only [List.append_assoc, List.cons_append, List.nil_append] at o2'
    have hf2' : ∀ k ∈ f2, H1.length ≤ k := fun k hk => by have := hf2 k hk; rw [List.length_append] at this; omega
    obtain ⟨hp2, hnd2⟩ := isL_snoc okMinder hp hnd hlt0 k12 o2' hf2' hk'' ho'' hf''
    have c3' := (hk''.blk (k12.blk c3 (by simp)) (fun h => by have := hge _ (List.mem_append.2 (.inl h)); omega))
    have d3' := blkAt_len c3'
    have hk1 : Keep [H.length + 2] H3 H'' := Keep.trans (h := [H.length + 2]) (Keep.trans (h := [H.length + 2]) hK3 k12 (by simp) (by simp)) hk'' (by simp) (fun k hk hl => by have := hge k (List.mem_append.2 (.inl hk)); omega)
    have hge2 : ∀ k ∈ fp'' ++ (fps ++ [f2]).flatten, H3.length ≤ k := fun k hk => by
      rcases List.mem_append.1 hk with hk | hk
      · rcases hf'' k hk with h | h
        · exact hge k (List.mem_append.2 (.inl h))
        · rw [List.length_append] at h; omega
      · rw [List.flatten_append] at hk
        rcases List.mem_append.1 hk with hk | hk
        · exact hge k (List.mem_append.2 (.inr hk))
        · simp at hk
          have := hf2' k hk; omega
    have ks := fun y => Keep.set (id := H.length + 2) H'' y
    have hno : ∀ k ∈ fp'' ++ (fps ++ [f2]).flatten, k ∉ [H.length + 2] := fun k hk => by have := hge2 k hk; simp; omega
    simp [t1, t2, t3, t9, t10, t11, c3', d3', Box.enc, g4]
    refine hn2 (j - 1) _ _ (by omega) ⟨i + 1, a'', rows ++ [l2], fp'', fps ++ [f2], by omega, by simp [t1], by simp [t2], by simp [t3], by simp [t9], by simp [t10], by simp, by rw [blkAt_set d3']; simp [Box.enc], ho''.keep (ks _) (fun k hk => hno k (List.mem_append.2 (.inl hk))), ?_, hnd2, hge2, hk1.trans (h := [H.length + 2]) (ks _) (by simp) (by simp)⟩
    rw [List.take_add_one, List.getElem?_eq_getElem hc]
    exact hp2.keep okMinder (ks _) (fun k hk => hno k (List.mem_append.2 (.inr hk)))
  · simp at hc
    obtain rfl : i = x.two.length := by omega
    rw [List.take_length] at hp
    simp [t9, t10, t11]
    refine he2 _ _ _ ?_
    have hlt0 := ho.lt
    have hltp := hp.lt okMinder
    have o0 : IsMinderS H1 (.sl a' x.two.length) x.two (fp0 ++ fps.flatten) := ⟨a', rows, fp0, fps, rfl, ho, hp, rfl, hnd⟩
    have hlt0 := o0.lt okMinder
    clear ho hp hltp
    simp [t1, c1, d1, Box.enc]
    have o0_0 := o0
    have k0_0 := hK
    have c1_0 := c1
    have c2_0 := c2
    have c3_0 := c3
    have hge0 : ∀ k ∈ fp0 ++ fps.flatten, H3.length ≤ k := hge
    have m0 : H1.length ≤ H1.length := Nat.le_refl _
    refine stpL_runs (cloneWireS (q := .sl a1 x.net.length) ⟨a1, rfl, r1.keep k0_0 (by simp)⟩ (by omega)) ?_
    rintro _ HX1 ⟨_, f1, rfl, ⟨q1, rfl, o1⟩, hf1⟩
    have kx1 : Keep [] H1 HX1 := hf1.keep
    have c3x1 := kx1.blk c3_0 (by simp)
    have d3x1 := blkAt_len c3x1
    have lx1 := kx1.1
    have lt1 := o1.lt
    have ge1 := hf1.2
    simp [t1, t3, c3x1, d3x1, Box.enc]
    obtain ⟨HY1, hY1⟩ : ∃ HY1 : Heap, HY1 = HX1.set (H.length + 2) (some ⟨43, .wr, [[.i .i64 x.id, .i .i64 x.ports, .i .i64 x.reg.epoch, .i .i64 x.reg.owner, .i .i64 x.reg.pair, .sl a' x.two.length, .sl q1 x.net.length, .sl a2 x.gates.length, .sl a3 x.line.length, .sl a4 x.said.length]]⟩) := ⟨_, rfl⟩
    rw [← hY1]
    have ky1 : Keep [H.length + 2] HX1 HY1 := by rw [hY1]; exact Keep.set _ _
    have c3_1 : blkAt HY1 (H.length + 2) = some ⟨43, .wr, [[.i .i64 x.id, .i .i64 x.ports, .i .i64 x.reg.epoch, .i .i64 x.reg.owner, .i .i64 x.reg.pair, .sl a' x.two.length, .sl q1 x.net.length, .sl a2 x.gates.length, .sl a3 x.line.length, .sl a4 x.said.length]]⟩ := by rw [hY1]; exact blkAt_set d3x1
    clear hY1
    have ly1 := ky1.1
    have c1_1 := ky1.blk (kx1.blk c1_0 (by simp)) (by simp)
    have c2_1 := ky1.blk (kx1.blk c2_0 (by simp)) (by simp)
    have d1_1 := blkAt_len c1_1
    have d2_1 := blkAt_len c2_1
    have d3_1 := blkAt_len c3_1
    have o0_1 := (o0_0.keep okMinder kx1 (by simp)).keep okMinder ky1 (fun i hi hj => by have := hge0 i hi; simp at hj; omega)
    have o1 := o1.keep ky1 (fun i hi hj => by have := ge1 i hi; simp at hj; omega)
    have k0_1 : Keep [] H HY1 := (k0_0.next kx1 (by simp)).next ky1 (by simp)
    simp [t1, c1_1, d1_1, Box.enc]
    refine stpL_runs (cloneBoolS (q := .sl a2 x.gates.length) ⟨a2, rfl, r2.keep k0_1 (by simp)⟩ (by omega)) ?_
    rintro _ HX2 ⟨_, f2, rfl, ⟨q2, rfl, o2⟩, hf2⟩
    have kx2 : Keep [] HY1 HX2 := hf2.keep
    have c3x2 := kx2.blk c3_1 (by simp)
    have d3x2 := blkAt_len c3x2
    have lx2 := kx2.1
    have lt2 := o2.lt
    have ge2 := hf2.2
    simp [t1, t3, c3x2, d3x2, Box.enc]
    obtain ⟨HY2, hY2⟩ : ∃ HY2 : Heap, HY2 = HX2.set (H.length + 2) (some ⟨43, .wr, [[.i .i64 x.id, .i .i64 x.ports, .i .i64 x.reg.epoch, .i .i64 x.reg.owner, .i .i64 x.reg.pair, .sl a' x.two.length, .sl q1 x.net.length, .sl q2 x.gates.length, .sl a3 x.line.length, .sl a4 x.said.length]]⟩) := ⟨_, rfl⟩
    rw [← hY2]
    have ky2 : Keep [H.length + 2] HX2 HY2 := by rw [hY2]; exact Keep.set _ _
    have c3_2 : blkAt HY2 (H.length + 2) = some ⟨43, .wr, [[.i .i64 x.id, .i .i64 x.ports, .i .i64 x.reg.epoch, .i .i64 x.reg.owner, .i .i64 x.reg.pair, .sl a' x.two.length, .sl q1 x.net.length, .sl q2 x.gates.length, .sl a3 x.line.length, .sl a4 x.said.length]]⟩ := by rw [hY2]; exact blkAt_set d3x2
    clear hY2
    have ly2 := ky2.1
    have c1_2 := ky2.blk (kx2.blk c1_1 (by simp)) (by simp)
    have c2_2 := ky2.blk (kx2.blk c2_1 (by simp)) (by simp)
    have d1_2 := blkAt_len c1_2
    have d2_2 := blkAt_len c2_2
    have d3_2 := blkAt_len c3_2
    have o0_2 := (o0_1.keep okMinder kx2 (by simp)).keep okMinder ky2 (fun i hi hj => by have := hge0 i hi; simp at hj; omega)
    have o1 := (o1.keep kx2 (by simp)).keep ky2 (fun i hi hj => by have := ge1 i hi; simp at hj; omega)
    have o2 := o2.keep ky2 (fun i hi hj => by have := ge2 i hi; simp at hj; omega)
    have k0_2 : Keep [] H HY2 := (k0_1.next kx2 (by simp)).next ky2 (by simp)
    simp [t1, c1_2, d1_2, Box.enc]
    refine stpL_runs (cloneInS (q := .sl a3 x.line.length) ⟨a3, rfl, r3.keep k0_2 (by simp)⟩ (by omega)) ?_
    rintro _ HX3 ⟨_, f3, rfl, ⟨q3, rfl, o3⟩, hf3⟩
    have kx3 : Keep [] HY2 HX3 := hf3.keep
    have c3x3 := kx3.blk c3_2 (by simp)
    have d3x3 := blkAt_len c3x3
    have lx3 := kx3.1
    have lt3 := o3.lt
    have ge3 := hf3.2
    simp [t1, t3, c3x3, d3x3, Box.enc]
    obtain ⟨HY3, hY3⟩ : ∃ HY3 : Heap, HY3 = HX3.set (H.length + 2) (some ⟨43, .wr, [[.i .i64 x.id, .i .i64 x.ports, .i .i64 x.reg.epoch, .i .i64 x.reg.owner, .i .i64 x.reg.pair, .sl a' x.two.length, .sl q1 x.net.length, .sl q2 x.gates.length, .sl q3 x.line.length, .sl a4 x.said.length]]⟩) := ⟨_, rfl⟩
    rw [← hY3]
    have ky3 : Keep [H.length + 2] HX3 HY3 := by rw [hY3]; exact Keep.set _ _
    have c3_3 : blkAt HY3 (H.length + 2) = some ⟨43, .wr, [[.i .i64 x.id, .i .i64 x.ports, .i .i64 x.reg.epoch, .i .i64 x.reg.owner, .i .i64 x.reg.pair, .sl a' x.two.length, .sl q1 x.net.length, .sl q2 x.gates.length, .sl q3 x.line.length, .sl a4 x.said.length]]⟩ := by rw [hY3]; exact blkAt_set d3x3
    clear hY3
    have ly3 := ky3.1
    have c1_3 := ky3.blk (kx3.blk c1_2 (by simp)) (by simp)
    have c2_3 := ky3.blk (kx3.blk c2_2 (by simp)) (by simp)
    have d1_3 := blkAt_len c1_3
    have d2_3 := blkAt_len c2_3
    have d3_3 := blkAt_len c3_3
    have o0_3 := (o0_2.keep okMinder kx3 (by simp)).keep okMinder ky3 (fun i hi hj => by have := hge0 i hi; simp at hj; omega)
    have o1 := (o1.keep kx3 (by simp)).keep ky3 (fun i hi hj => by have := ge1 i hi; simp at hj; omega)
    have o2 := (o2.keep kx3 (by simp)).keep ky3 (fun i hi hj => by have := ge2 i hi; simp at hj; omega)
    have o3 := o3.keep ky3 (fun i hi hj => by have := ge3 i hi; simp at hj; omega)
    have k0_3 : Keep [] H HY3 := (k0_2.next kx3 (by simp)).next ky3 (by simp)
    simp [t1, c1_3, d1_3, Box.enc]
    refine stpL_runs (cloneOutS (q := .sl a4 x.said.length) ⟨a4, rfl, r4.keep k0_3 (by simp)⟩ (by omega)) ?_
    rintro _ HX4 ⟨_, f4, rfl, ⟨q4, rfl, o4⟩, hf4⟩
    have kx4 : Keep [] HY3 HX4 := hf4.keep
    have c3x4 := kx4.blk c3_3 (by simp)
    have d3x4 := blkAt_len c3x4
    have lx4 := kx4.1
    have lt4 := o4.lt
    have ge4 := hf4.2
    simp [t1, t3, c3x4, d3x4, Box.enc]
    obtain ⟨HY4, hY4⟩ : ∃ HY4 : Heap, HY4 = HX4.set (H.length + 2) (some ⟨43, .wr, [[.i .i64 x.id, .i .i64 x.ports, .i .i64 x.reg.epoch, .i .i64 x.reg.owner, .i .i64 x.reg.pair, .sl a' x.two.length, .sl q1 x.net.length, .sl q2 x.gates.length, .sl q3 x.line.length, .sl q4 x.said.length]]⟩) := ⟨_, rfl⟩
    rw [← hY4]
    have ky4 : Keep [H.length + 2] HX4 HY4 := by rw [hY4]; exact Keep.set _ _
    have c3_4 : blkAt HY4 (H.length + 2) = some ⟨43, .wr, [[.i .i64 x.id, .i .i64 x.ports, .i .i64 x.reg.epoch, .i .i64 x.reg.owner, .i .i64 x.reg.pair, .sl a' x.two.length, .sl q1 x.net.length, .sl q2 x.gates.length, .sl q3 x.line.length, .sl q4 x.said.length]]⟩ := by rw [hY4]; exact blkAt_set d3x4
    clear hY4
    have ly4 := ky4.1
    have c1_4 := ky4.blk (kx4.blk c1_3 (by simp)) (by simp)
    have c2_4 := ky4.blk (kx4.blk c2_3 (by simp)) (by simp)
    have d1_4 := blkAt_len c1_4
    have d2_4 := blkAt_len c2_4
    have d3_4 := blkAt_len c3_4
    have o0_4 := (o0_3.keep okMinder kx4 (by simp)).keep okMinder ky4 (fun i hi hj => by have := hge0 i hi; simp at hj; omega)
    have o1 := (o1.keep kx4 (by simp)).keep ky4 (fun i hi hj => by have := ge1 i hi; simp at hj; omega)
    have o2 := (o2.keep kx4 (by simp)).keep ky4 (fun i hi hj => by have := ge2 i hi; simp at hj; omega)
    have o3 := (o3.keep kx4 (by simp)).keep ky4 (fun i hi hj => by have := ge3 i hi; simp at hj; omega)
    have o4 := o4.keep ky4 (fun i hi hj => by have := ge4 i hi; simp at hj; omega)
    have k0_4 : Keep [] H HY4 := (k0_3.next kx4 (by simp)).next ky4 (by simp)
    simp [t2, t3, c2_4, d2_4, c3_4, d3_4, Box.enc, hZl]
    have hdz : List.drop 10 Z = [] := List.drop_of_length_le (by omega)
    try simp [hdz]
    obtain ⟨HF, hHF⟩ : ∃ HF : Heap, HF = HY4.set (H.length + 1) (some ⟨43, .wr, [[.i .i64 x.id, .i .i64 x.ports, .i .i64 x.reg.epoch, .i .i64 x.reg.owner, .i .i64 x.reg.pair, .sl a' x.two.length, .sl q1 x.net.length, .sl q2 x.gates.length, .sl q3 x.line.length, .sl q4 x.said.length]]⟩) := ⟨_, rfl⟩
    rw [← hHF]
    have kF : Keep [H.length + 1] HY4 HF := by rw [hHF]; exact Keep.set _ _
    have cF : blkAt HF (H.length + 1) = some ⟨43, .wr, [[.i .i64 x.id, .i .i64 x.ports, .i .i64 x.reg.epoch, .i .i64 x.reg.owner, .i .i64 x.reg.pair, .sl a' x.two.length, .sl q1 x.net.length, .sl q2 x.gates.length, .sl q3 x.line.length, .sl q4 x.said.length]]⟩ := by rw [hHF]; exact blkAt_set d2_4
    clear hHF
    refine hQ _ _ _ (by simp) ?_
    simp [Try.f90, t2, cF]
    have hI : IsBox HF [.i .i64 x.id, .i .i64 x.ports, .i .i64 x.reg.epoch, .i .i64 x.reg.owner, .i .i64 x.reg.pair, .sl a' x.two.length, .sl q1 x.net.length, .sl q2 x.gates.length, .sl q3 x.line.length, .sl q4 x.said.length] x ((fp0 ++ fps.flatten) ++ (f1 ++ (f2 ++ (f3 ++ f4)))) := ⟨_, _, _, _, _, _, f1, f2, f3, f4, rfl, o0_4.keep okMinder kF (fun i hi hj => by have := hge0 i hi; simp at hj; omega), ⟨q1, rfl, o1.keep kF (fun i hi hj => by have := ge1 i hi; simp at hj; omega)⟩, ⟨q2, rfl, o2.keep kF (fun i hi hj => by have := ge2 i hi; simp at hj; omega)⟩, ⟨q3, rfl, o3.keep kF (fun i hi hj => by have := ge3 i hi; simp at hj; omega)⟩, ⟨q4, rfl, o4.keep kF (fun i hi hj => by have := ge4 i hi; simp at hj; omega)⟩, rfl,
      nd5 hnd (IsSl.nodup ⟨q1, rfl, o1⟩) (IsSl.nodup ⟨q2, rfl, o2⟩) (IsSl.nodup ⟨q3, rfl, o3⟩) (IsSl.nodup ⟨q4, rfl, o4⟩) (a := H1.length) (b := HX1.length) (c := HX2.length) (d := HX3.length) (e := HX4.length) (fun i hi => ⟨ge1 i hi, lt1 i hi⟩) (fun i hi => ⟨by have := ge2 i hi; omega, lt2 i hi⟩) (fun i hi => ⟨by have := ge3 i hi; omega, lt3 i hi⟩) (fun i hi => ⟨by have := ge4 i hi; omega, lt4 i hi⟩) (fun i hi => .inl (hlt0 i hi)) lx1 (by omega) (by omega) (by omega)⟩
    have hfr : Fresh H HF ((fp0 ++ fps.flatten) ++ (f1 ++ (f2 ++ (f3 ++ f4)))) := ⟨(k0_4.next kF (by simp)).ext, fun i hi => by
      rcases List.mem_append.1 hi with hi | hi
      · have := hge0 i hi; omega
      · rcases List.mem_append.1 hi with hi | hi
        · have := ge1 i hi; omega
        · rcases List.mem_append.1 hi with hi | hi
          · have := ge2 i hi; omega
          · rcases List.mem_append.1 hi with hi | hi
            · have := ge3 i hi; omega
            · have := ge4 i hi; omega⟩
    exact hI.leave hfr (by simp)

theorem specCopyBox {H : Heap} {l : List Lf} {x : Box} (h : RdBox H l x) (hn : x.sz ≤ 1048576) : Runs env 82 [.agg l] H fun v H' => ∃ l' fp, v = .agg l' ∧ IsBox H' l' x fp ∧ Fresh H H' fp := by
  obtain ⟨_, _, _, _, _, rfl, ⟨a0, rws, rfl, hs, hlen, hat⟩, ⟨a1, rfl, r1⟩, ⟨a2, rfl, r2⟩, ⟨a3, rfl, r3⟩, ⟨a4, rfl, r4⟩⟩ := h
  unfold Box.sz at hn
  have hl0 := MinderS.sz_len x.two
  refine Runs.walk ok82 Try.func82 rfl (by simp [Try.f82]) fun Q hQ => ?_
  simp only [Try.f82, strip, stripL, stripI, stripG, chkT, tagsB, tagsL, tagD, addT, tagA, lookN, tagOp, elmT, ty22, ty23, ty28, ty29, ty37, ty38, ty39, ty40, ty41, ty50, ty51, ty52, ty53, ty72, ty81, ty141, ty189, Nat.reduceEqDiff, if_false, reduceIte, Option.getD_some, Option.getD_none, dstAt, dstOk, Nat.reduceLT, decide_true, if_true]
  simp [Box.enc]
  obtain ⟨Z, hZ⟩ : ∃ Z : List Lf, Z = [.i .i64 0, .i .i64 0, .i .i64 0, .i .i64 0, .i .i64 0, .sl none 0, .sl none 0, .sl none 0, .sl none 0, .sl none 0] := ⟨_, rfl⟩
  obtain ⟨HX0, hH0⟩ : ∃ H3 : Heap, H3 = H ++ [some ⟨43, .wr, [[.i .i64 x.id, .i .i64 x.ports, .i .i64 x.reg.epoch, .i .i64 x.reg.owner, .i .i64 x.reg.pair, .sl a0 x.two.length, .sl a1 x.net.length, .sl a2 x.gates.length, .sl a3 x.line.length, .sl a4 x.said.length]]⟩, some ⟨43, .wr, [Z]⟩] := ⟨_, rfl⟩
  have c1_0 : blkAt HX0 H.length = some ⟨43, .wr, [[.i .i64 x.id, .i .i64 x.ports, .i .i64 x.reg.epoch, .i .i64 x.reg.owner, .i .i64 x.reg.pair, .sl a0 x.two.length, .sl a1 x.net.length, .sl a2 x.gates.length, .sl a3 x.line.length, .sl a4 x.said.length]]⟩ := by rw [hH0]; simp
  have c2_0 : blkAt HX0 (H.length + 1) = some ⟨43, .wr, [Z]⟩ := by rw [hH0]; simp
  have k0_0 : Keep [] H HX0 := by rw [hH0]; exact Keep.app _ _ _
  have lx0 : HX0.length = H.length + 2 := by rw [hH0]; simp
  have hZl : Z.length = 10 := by rw [hZ]; rfl
  have hT : ∀ tmp : Option Blk, H ++ [some ⟨43, .wr, [[.i .i64 x.id, .i .i64 x.ports, .i .i64 x.reg.epoch, .i .i64 x.reg.owner, .i .i64 x.reg.pair, .sl a0 x.two.length, .sl a1 x.net.length, .sl a2 x.gates.length, .sl a3 x.line.length, .sl a4 x.said.length]]⟩, some ⟨43, .wr, [[.i .i64 0, .i .i64 0, .i .i64 0, .i .i64 0, .i .i64 0, .sl none 0, .sl none 0, .sl none 0, .sl none 0, .sl none 0]]⟩, tmp] = HX0 ++ [tmp] := by intro tmp; rw [hH0, hZ]; simp
  rw [hT]
  rw [show H.length + 2 = HX0.length from lx0.symm]
  clear hT hH0
  refine stpL_append (rows := []) (ys := x.net.map Wire.enc) (Own.of (by simp)) ((r1.keep k0_0 (by simp)).app _) rfl rfl rfl (by simp) (by simp; omega) rfl (by simp) fun q1 HX1 f1 o1 kt1 ft1 => ?_
  rw [List.nil_append] at o1
  have kx1 : Keep [] HX0 HX1 := (Keep.app [] _ _).next kt1 (by simp)
  have lx1' := kx1.1
  have lt1 := o1.lt
  have ge1 : ∀ i ∈ f1, HX0.length ≤ i := fun i hi => by
    rcases ft1 i hi with h | h
    · simp at h; omega
    · rw [List.length_append] at h; omega
  have c1_1 := kx1.blk c1_0 (by simp)
  have c2_1 := kx1.blk c2_0 (by simp)
  have d1_1 := blkAt_len c1_1
  have k0_1 : Keep [] H HX1 := k0_0.next kx1 (by simp)
  simp [c1_1, d1_1, Box.enc]
  refine stpL_append (rows := []) (ys := x.gates.map encB) (Own.of (by simp)) ((r2.keep k0_1 (by simp)).app _) rfl rfl rfl (by simp) (by simp; omega) rfl (by simp) fun q2 HX2 f2 o2 kt2 ft2 => ?_
  rw [List.nil_append] at o2
  have kx2 : Keep [] HX1 HX2 := (Keep.app [] _ _).next kt2 (by simp)
  have lx2' := kx2.1
  have lt2 := o2.lt
  have ge2 : ∀ i ∈ f2, HX1.length ≤ i := fun i hi => by
    rcases ft2 i hi with h | h
    · simp at h; omega
    · rw [List.length_append] at h; omega
  have c1_2 := kx2.blk c1_1 (by simp)
  have c2_2 := kx2.blk c2_1 (by simp)
  have d1_2 := blkAt_len c1_2
  have k0_2 : Keep [] H HX2 := k0_1.next kx2 (by simp)
  have o1 := o1.keep kx2 (by simp)
  simp [c1_2, d1_2, Box.enc]
  refine stpL_append (rows := []) (ys := x.line.map In.enc) (Own.of (by simp)) ((r3.keep k0_2 (by simp)).app _) rfl rfl rfl (by simp) (by simp; omega) rfl (by simp) fun q3 HX3 f3 o3 kt3 ft3 => ?_
  rw [List.nil_append] at o3
  have kx3 : Keep [] HX2 HX3 := (Keep.app [] _ _).next kt3 (by simp)
  have lx3' := kx3.1
  have lt3 := o3.lt
  have ge3 : ∀ i ∈ f3, HX2.length ≤ i := fun i hi => by
    rcases ft3 i hi with h | h
    · simp at h; omega
    · rw [List.length_append] at h; omega
  have c1_3 := kx3.blk c1_2 (by simp)
  have c2_3 := kx3.blk c2_2 (by simp)
  have d1_3 := blkAt_len c1_3
  have k0_3 : Keep [] H HX3 := k0_2.next kx3 (by simp)
  have o1 := o1.keep kx3 (by simp)
  have o2 := o2.keep kx3 (by simp)
  simp [c1_3, d1_3, Box.enc]
  refine stpL_append (rows := []) (ys := x.said.map Out.enc) (Own.of (by simp)) ((r4.keep k0_3 (by simp)).app _) rfl rfl rfl (by simp) (by simp; omega) rfl (by simp) fun q4 HX4 f4 o4 kt4 ft4 => ?_
  rw [List.nil_append] at o4
  have kx4 : Keep [] HX3 HX4 := (Keep.app [] _ _).next kt4 (by simp)
  have lx4' := kx4.1
  have lt4 := o4.lt
  have ge4 : ∀ i ∈ f4, HX3.length ≤ i := fun i hi => by
    rcases ft4 i hi with h | h
    · simp at h; omega
    · rw [List.length_append] at h; omega
  have c1_4 := kx4.blk c1_3 (by simp)
  have c2_4 := kx4.blk c2_3 (by simp)
  have d1_4 := blkAt_len c1_4
  have k0_4 : Keep [] H HX4 := k0_3.next kx4 (by simp)
  have o1 := o1.keep kx4 (by simp)
  have o2 := o2.keep kx4 (by simp)
  have o3 := o3.keep kx4 (by simp)
  simp [c1_4, d1_4, Box.enc]
  obtain ⟨H3, hH3⟩ : ∃ H3 : Heap, H3 = HX4 ++ [some ⟨43, .wr, [[.i .i64 x.id, .i .i64 x.ports, .i .i64 x.reg.epoch, .i .i64 x.reg.owner, .i .i64 x.reg.pair, .sl none 0, .sl q1 x.net.length, .sl q2 x.gates.length, .sl q3 x.line.length, .sl q4 x.said.length]]⟩] := ⟨_, rfl⟩
  have b3 : blkAt H3 HX4.length = some ⟨43, .wr, [[.i .i64 x.id, .i .i64 x.ports, .i .i64 x.reg.epoch, .i .i64 x.reg.owner, .i .i64 x.reg.pair, .sl none 0, .sl q1 x.net.length, .sl q2 x.gates.length, .sl q3 x.line.length, .sl q4 x.said.length]]⟩ := by rw [hH3]; simp
  have k43 : Keep [] HX4 H3 := by rw [hH3]; exact Keep.app _ _ _
  have hl3 : H3.length = HX4.length + 1 := by rw [hH3]; simp
  rw [← hH3]
  clear hH3
  have b1 := k43.blk c1_4 (by simp)
  have b2 := k43.blk c2_4 (by simp)
  have o1 := o1.keep k43 (by simp)
  have o2 := o2.keep k43 (by simp)
  have o3 := o3.keep k43 (by simp)
  have o4 := o4.keep k43 (by simp)
  have k03 : Keep [] H H3 := k0_4.next k43 (by simp)
  refine wpS_loop (fun j tm H' => ∃ i a' rows fp0 fps, i + j = x.two.length ∧ tm 1 = .ptr H.length 0 0 ∧ tm 2 = .ptr (H.length + 1) 0 0 ∧ tm 3 = .ptr HX4.length 0 0 ∧ tm 4 = .int i ∧ blkAt H' HX4.length = some ⟨43, .wr, [[.i .i64 x.id, .i .i64 x.ports, .i .i64 x.reg.epoch, .i .i64 x.reg.owner, .i .i64 x.reg.pair, .sl a' i, .sl q1 x.net.length, .sl q2 x.gates.length, .sl q3 x.line.length, .sl q4 x.said.length]]⟩ ∧ Own H' 98 a' rows fp0 ∧ Part IsMinder H' rows (x.two.take i) fps ∧ (fp0 ++ fps.flatten).Nodup ∧ (∀ k ∈ fp0 ++ fps.flatten, H3.length ≤ k) ∧ Keep [HX4.length] H3 H') x.two.length (by rw [env_K]; omega)
    ⟨0, none, [], [], [], by simp, by simp, by simp, by simp, by simp, b3, Own.nil _ _, Part.nil _ _, by simp, by simp, Keep.refl _ _⟩ ?_
  rintro j tm H1 hj ⟨i, a', rows, fp0, fps, hij, t1, t2, t3, t4, c3, ho, hp, hnd, hge, hK3⟩ Q2 hn2 he2 hr2
  have c1 := hK3.blk b1 (by simp; omega)
  have c2 := hK3.blk b2 (by simp; omega)
  have d1 := blkAt_len c1
  have d2 := blkAt_len c2
  have d3 := blkAt_len c3
  have hK : Keep [] H H1 := k03.next hK3 (by simp; omega)
  have h31 := hK3.1
  simp [t1, t4, c1, d1, builtinV, pureB, lenV]
  refine selS_intro (fun hc => ?_) (fun hc => ?_)
  · simp at hc
    have hri : i < rws.length := by omega
    obtain ⟨id2, r, bl, rfl, hbl, hbe, hrow⟩ := (hs.keep hK (by simp)) i _ (List.getElem?_eq_getElem hri)
    have hid := blkAt_len hbl
    have he := (hat i _ _ (List.getElem?_eq_getElem hri) (List.getElem?_eq_getElem hc)).base hK
    have hL := he.len
    have hT : rws[i].take rws[i].length = rws[i] := List.take_length
    rw [hL] at hT
    have hszi := MinderS.sz_at (List.getElem_mem hc)
    have g4 : IntKind.i64.wrap ((i : Int) + 1) = (i : Int) + 1 := wrap64 (by omega) (by omega)
    have hrl : rows.length = i := by rw [hp.len]; simp; omega
    simp [t1, t2, t3, t4, c1, d1, c3, d3, Box.enc, indexAddrV, elemIs, hid, hbl, hbe, hc, hrow, hL, hT]
    refine stpL_runs_f (specCopyM he (by omega)) (by rintro _ _ ⟨_, _, _, _, hf⟩; exact hf.1) ?_
    rintro _ _ ⟨l2, f2, rfl, o2', ⟨⟨G2, rfl⟩, hf2⟩⟩
    have hl2 := o2'.len
    have hT2 : l2.take l2.length = l2 := List.take_length
    rw [hl2] at hT2
    simp [hl2, hT2]
    have hlt0 := ho.lt
    refine stpL_append (e := 98) (rows := rows) (ys := [l2]) (ho.app _) (Sl.of (by simp)) rfl rfl rfl (by simp) (by simp; omega) (by omega) rfl fun a'' H'' fp'' ho'' hk'' hf'' => ?_
    have k12 : Keep [] H1 (H1 ++ (G2 ++ [some ⟨98, .wr, [l2]⟩])) := Keep.app _ _ _
    have o2'' := o2'.app [some ⟨98, .wr, [l2]⟩]
    simp only [List.append_assoc, List.cons_append, List.nil_append] at o2''
    obtain ⟨hp2, hnd2⟩ := isL_snoc okMinder hp hnd hlt0 k12 o2'' hf2 hk'' ho'' hf''
    have c3' := (hk''.blk (k12.blk c3 (by simp)) (fun h => by have := hge _ (List.mem_append.2 (.inl h)); omega))
    have d3' := blkAt_len c3'
    have hk1 : Keep [HX4.length] H3 H'' := Keep.trans (h := [HX4.length]) (Keep.trans (h := [HX4.length]) hK3 k12 (by simp) (by simp)) hk'' (by simp) (fun k hk hl => by have := hge k (List.mem_append.2 (.inl hk)); omega)
    have hge2 : ∀ k ∈ fp'' ++ (fps ++ [f2]).flatten, H3.length ≤ k := fun k hk => by
      rcases List.mem_append.1 hk with hk | hk
      · rcases hf'' k hk with h | h
        · exact hge k (List.mem_append.2 (.inl h))
        · rw [List.length_append] at h; omega
      · rw [List.flatten_append] at hk
        rcases List.mem_append.1 hk with hk | hk
        · exact hge k (List.mem_append.2 (.inr hk))
        · simp at hk
          have := hf2 k hk; omega
    have ks := fun y => Keep.set (id := HX4.length) H'' y
    have hno : ∀ k ∈ fp'' ++ (fps ++ [f2]).flatten, k ∉ [HX4.length] := fun k hk => by have := hge2 k hk; simp; omega
    simp [t1, t2, t3, t4, c3', d3', Box.enc, g4]
    refine hn2 (j - 1) _ _ (by omega) ⟨i + 1, a'', rows ++ [l2], fp'', fps ++ [f2], by omega, by simp [t1], by simp [t2], by simp [t3], by simp, by rw [blkAt_set d3'], ho''.keep (ks _) (fun k hk => hno k (List.mem_append.2 (.inl hk))), ?_, hnd2, hge2, hk1.trans (h := [HX4.length]) (ks _) (by simp) (by simp)⟩
    rw [List.take_add_one, List.getElem?_eq_getElem hc]
    exact hp2.keep okMinder (ks _) (fun k hk => hno k (List.mem_append.2 (.inr hk)))
  · simp at hc
    obtain rfl : i = x.two.length := by omega
    rw [List.take_length] at hp
    simp [t1, t4]
    refine he2 _ _ _ ?_
    have o0 : IsMinderS H1 (.sl a' x.two.length) x.two (fp0 ++ fps.flatten) := ⟨a', rows, fp0, fps, rfl, ho, hp, rfl, hnd⟩
    have n3 : ∀ i ∈ [HX4.length], HX4.length ≤ i := by simp
    have o1 := o1.keep hK3 (fun i hi hj => by have := lt1 i hi; simp at hj; omega)
    have o2 := o2.keep hK3 (fun i hi hj => by have := lt2 i hi; simp at hj; omega)
    have o3 := o3.keep hK3 (fun i hi hj => by have := lt3 i hi; simp at hj; omega)
    have o4 := o4.keep hK3 (fun i hi hj => by have := lt4 i hi; simp at hj; omega)
    simp [t2, t3, c2, d2, c3, d3, hZl]
    have hdz : List.drop 10 Z = [] := List.drop_of_length_le (by omega)
    try simp [hdz]
    obtain ⟨HF, hHF⟩ : ∃ HF : Heap, HF = H1.set (H.length + 1) (some ⟨43, .wr, [[.i .i64 x.id, .i .i64 x.ports, .i .i64 x.reg.epoch, .i .i64 x.reg.owner, .i .i64 x.reg.pair, .sl a' x.two.length, .sl q1 x.net.length, .sl q2 x.gates.length, .sl q3 x.line.length, .sl q4 x.said.length]]⟩) := ⟨_, rfl⟩
    rw [← hHF]
    have kF : Keep [H.length + 1] H1 HF := by rw [hHF]; exact Keep.set _ _
    have cF : blkAt HF (H.length + 1) = some ⟨43, .wr, [[.i .i64 x.id, .i .i64 x.ports, .i .i64 x.reg.epoch, .i .i64 x.reg.owner, .i .i64 x.reg.pair, .sl a' x.two.length, .sl q1 x.net.length, .sl q2 x.gates.length, .sl q3 x.line.length, .sl q4 x.said.length]]⟩ := by rw [hHF]; exact blkAt_set d2
    clear hHF
    refine hQ _ _ _ (by simp) ?_
    simp [Try.f82, t2, cF]
    have hI : IsBox HF [.i .i64 x.id, .i .i64 x.ports, .i .i64 x.reg.epoch, .i .i64 x.reg.owner, .i .i64 x.reg.pair, .sl a' x.two.length, .sl q1 x.net.length, .sl q2 x.gates.length, .sl q3 x.line.length, .sl q4 x.said.length] x ((fp0 ++ fps.flatten) ++ (f1 ++ (f2 ++ (f3 ++ f4)))) := ⟨_, _, _, _, _, _, f1, f2, f3, f4, rfl, o0.keep okMinder kF (fun i hi hj => by have := hge i hi; simp at hj; omega), ⟨q1, rfl, o1.keep kF (fun i hi hj => by have := ge1 i hi; simp at hj; omega)⟩, ⟨q2, rfl, o2.keep kF (fun i hi hj => by have := ge2 i hi; simp at hj; omega)⟩, ⟨q3, rfl, o3.keep kF (fun i hi hj => by have := ge3 i hi; simp at hj; omega)⟩, ⟨q4, rfl, o4.keep kF (fun i hi hj => by have := ge4 i hi; simp at hj; omega)⟩, rfl,
      nd5 hnd o1.nodup o2.nodup o3.nodup o4.nodup (a := HX0.length) (b := HX1.length) (c := HX2.length) (d := HX3.length) (e := HX4.length) (fun i hi => ⟨ge1 i hi, lt1 i hi⟩) (fun i hi => ⟨ge2 i hi, lt2 i hi⟩) (fun i hi => ⟨ge3 i hi, lt3 i hi⟩) (fun i hi => ⟨ge4 i hi, lt4 i hi⟩) (fun i hi => .inr (by have := hge i hi; omega)) lx1' lx2' lx3' lx4'⟩
    have hfr : Fresh H HF ((fp0 ++ fps.flatten) ++ (f1 ++ (f2 ++ (f3 ++ f4)))) := ⟨(hK.next kF (by simp)).ext, fun i hi => by
      rcases List.mem_append.1 hi with hi | hi
      · have := hge i hi; omega
      · rcases List.mem_append.1 hi with hi | hi
        · have := ge1 i hi; omega
        · rcases List.mem_append.1 hi with hi | hi
          · have := ge2 i hi; omega
          · rcases List.mem_append.1 hi with hi | hi
            · have := ge3 i hi; omega
            · have := ge4 i hi; omega⟩
    exact hI.leave hfr (by simp)

theorem sl_uniq {α : Type} {H : Heap} {e : Nat} {enc : α → List Lf} {a : Option (Nat × Nat)} {xs ys : List α} (inj : ∀ x y, enc x = enc y → x = y) (h : Sl H e a (xs.map enc)) (h2 : Sl H e a (ys.map enc)) (hl : xs.length = ys.length) : xs = ys := by
  refine List.ext_getElem hl fun i h3 h4 => ?_
  obtain ⟨id, r, b, rfl, hb, -, hrow⟩ := h i (enc xs[i]) (by simp [h3])
  obtain ⟨id', r', b', hx, hb', -, hrow'⟩ := h2 i (enc ys[i]) (by simp [h4])
  cases hx
  rw [hb] at hb'
  injection hb' with hb'
  subst hb'
  rw [hrow] at hrow'
  injection hrow' with hrow'
  exact inj _ _ hrow'
theorem rdSl_uniq {α : Type} {H : Heap} {e : Nat} {enc : α → List Lf} {q : Lf} {xs ys : List α} (inj : ∀ x y, enc x = enc y → x = y) (h : RdSl e enc H q xs) (h2 : RdSl e enc H q ys) : xs = ys := by
  obtain ⟨a, rfl, s1⟩ := h
  obtain ⟨b, hq, s2⟩ := h2
  injection hq with h1 h2
  subst h1
  exact sl_uniq inj s1 s2 h2
theorem rdMinder_uniq {H : Heap} {l : List Lf} {x y : Minder} (h : RdMinder H l x) (h2 : RdMinder H l y) : x = y := by
  obtain ⟨a, rfl, s1⟩ := h
  obtain ⟨b, hq, s2⟩ := h2
  simp [Minder.enc] at hq
  obtain ⟨e1, e2, e3, ⟨e4, e5⟩, e6, e7, e8⟩ := hq
  subst e4
  have := sl_uniq (fun x y h => In.enc_inj h) s1 s2 e5
  cases x; cases y; simp_all
theorem rdMinderS_uniq {H : Heap} {q : Lf} {xs ys : List Minder} (h : RdMinderS H q xs) (h2 : RdMinderS H q ys) : xs = ys := by
  obtain ⟨a, rws, rfl, s1, l1, at1⟩ := h
  obtain ⟨b, rws2, hq, s2, l2, at2⟩ := h2
  injection hq with h1 h2
  subst h1
  refine List.ext_getElem h2 fun i h3 h4 => ?_
  have r1 : i < rws.length := by omega
  have r2 : i < rws2.length := by omega
  obtain ⟨id, r, b, rfl, hb, -, hrow⟩ := s1 i _ (List.getElem?_eq_getElem r1)
  obtain ⟨id', r', b', hx, hb', -, hrow'⟩ := s2 i _ (List.getElem?_eq_getElem r2)
  cases hx
  rw [hb] at hb'
  injection hb' with hb'
  subst hb'
  rw [hrow] at hrow'
  injection hrow' with hrow'
  have e1 := at1 i _ _ (List.getElem?_eq_getElem r1) (List.getElem?_eq_getElem h3)
  have e2 := at2 i _ _ (List.getElem?_eq_getElem r2) (List.getElem?_eq_getElem h4)
  rw [← hrow'] at e2
  exact rdMinder_uniq e1 e2
theorem encB_one (x y : Bool) (h : encB x = encB y) : x = y := by simpa [encB] using h
theorem rdBox_uniq {H : Heap} {l : List Lf} {x y : Box} (h : RdBox H l x) (h2 : RdBox H l y) : x = y := by
  obtain ⟨q0, q1, q2, q3, q4, rfl, a0, a1, a2, a3, a4⟩ := h
  obtain ⟨p0, p1, p2, p3, p4, hl, b0, b1, b2, b3, b4⟩ := h2
  simp [Box.enc] at hl
  obtain ⟨e1, e2, e3, e4, e5, rfl, rfl, rfl, rfl, rfl⟩ := hl
  have c0 := rdMinderS_uniq a0 b0
  have c1 := rdSl_uniq (fun x y h => Wire.enc_inj h) a1 b1
  have c2 := rdSl_uniq encB_one a2 b2
  have c3 := rdSl_uniq (fun x y h => In.enc_inj h) a3 b3
  have c4 := rdSl_uniq (fun x y h => Out.enc_inj h) a4 b4
  cases x; cases y
  rename_i r1 _ _ _ _ _ _ _ r2 _ _ _ _ _
  cases r1; cases r2
  simp_all
/-- What a call leaves of a box that was turned in its place. -/
theorem leave_box {H HF : Heap} {id : Nat} {l l' : List Lf} {x x' : Box} {fp fp' : List Nat} (hb : blkAt H id = some ⟨43, .wr, [l]⟩) (hI : IsBox H l x fp) (hb' : blkAt HF id = some ⟨43, .wr, [l']⟩) (hI' : IsBox HF l' x' fp') (hK : Keep (id :: fp) H HF) (hf : ∀ i ∈ fp', i ∈ fp ∨ H.length ≤ i) (ws : List W) :
    ∃ fp2, blkAt (leave H HF ws) id = some ⟨43, .wr, [l']⟩ ∧ IsBox (leave H HF ws) l' x' fp2 ∧ Keep (id :: fp) H (leave H HF ws) ∧ (∀ i ∈ fp2, i ∈ fp ∨ H.length ≤ i) := by
  rcases leave_or H HF ws with e | ⟨e, G, rfl⟩ <;> rw [e]
  · exact ⟨fp', hb', hI', hK, hf⟩
  · rw [blkAt_app hb] at hb'
    injection hb' with hb'
    simp at hb'
    subst hb'
    have := rdBox_uniq (hI.rd.app G) hI'.rd
    subst this
    exact ⟨fp, hb, hI, Keep.refl _ _, fun i hi => .inl hi⟩

def gateStep (gs : List Bool) (o : Out) : List Bool := if o.kind = 2 ∧ 0 ≤ o.port ∧ o.port ≤ (gs.length : Int) - 1 then gs.set o.port.toNat o.on else gs
def acceptB (x : Box) (list : List Out) : Box := ⟨x.id, x.ports, x.reg, x.two, x.net, list.foldl gateStep x.gates, x.line, lastL (x.said ++ list)⟩
def accept (x : Box) (s : Int) (list : List Out) : Box := if mindsAt x s = true then acceptB x list else x
theorem gateStep_len (gs : List Bool) (o : Out) : (gateStep gs o).length = gs.length := by unfold gateStep; split <;> simp
theorem accGates_len (list : List Out) : ∀ gs : List Bool, (list.foldl gateStep gs).length = gs.length := by
  induction list with
  | nil => intro gs; rfl
  | cons o os ih => intro gs; rw [List.foldl_cons, ih, gateStep_len]
theorem gates_step (list : List Out) (gs : List Bool) {i : Nat} (h : i < list.length) : (list.take (i + 1)).foldl gateStep gs = gateStep ((list.take i).foldl gateStep gs) list[i] := by
  rw [List.take_add_one, List.getElem?_eq_getElem h, List.foldl_append]
  rfl
theorem lastL_len (l : List Out) : (lastL l).length ≤ 40 ∧ (lastL l).length ≤ l.length := by unfold lastL; simp; omega
theorem acceptB_sz {x : Box} {list : List Out} (hn : x.sz ≤ 1048576) (hl : x.sz + list.length ≤ 1048576) : (acceptB x list).sz ≤ 1048576 := by
  have := accGates_len list x.gates
  have h2 := lastL_len (x.said ++ list)
  rw [List.length_append] at h2
  unfold Box.sz at hn hl ⊢
  simp only [acceptB]
  omega
theorem accept_sz0 {x : Box} {s : Int} {list : List Out} (hl : x.sz + list.length ≤ 1048576) : (accept x s list).sz ≤ 1048576 := by
  unfold accept
  split
  · exact acceptB_sz (by omega) hl
  · omega

theorem acceptM {H : Heap} {id : Nat} {l : List Lf} {x : Box} {fp : List Nat} (hb : blkAt H id = some ⟨43, .wr, [l]⟩) (hI : IsBox H l x fp) (hid : id ∉ fp) (hn : x.sz ≤ 1048576) {a : Option (Nat × Nat)} {list : List Out} (hl : Sl H 113 a (list.map Out.enc))
    (hdj : ∀ i r, a = some (i, r) → list ≠ [] → i ∉ fp ∧ i ≠ id) (hln : list.length ≤ 1048576) :
    Runs env 93 [.ptr id 0 0, .w (.lf (.sl a list.length))] H fun v H' => v = .tup [] ∧ ∃ l' fp', blkAt H' id = some ⟨43, .wr, [l']⟩ ∧ IsBox H' l' (acceptB x list) fp' ∧ Keep (id :: fp) H H' ∧ (∀ i ∈ fp', i ∈ fp ∨ H.length ≤ i) := by
  have hI0 := hI
  have hb0 := hb
  obtain ⟨q0, q1, q2, q3, q4, f0, f1, f2, f3, f4, rfl, i0, i1, ⟨a2, rfl, o2⟩, i3, ⟨a4, rfl, o4⟩, rfl, hnd⟩ := hI
  have hsl : ∀ H' f, Keep f H H' → (∀ i ∈ f, i ∈ f0 ++ (f1 ++ (f2 ++ (f3 ++ f4)))) → Sl H' 113 a (list.map Out.enc) := fun H' f hk hf => by
    by_cases hx : list = []
    · subst hx; exact fun i row h => by simp at h
    · exact hl.keep hk (fun i r h hi => (hdj i r h hx).1 (hf i hi))
  have n0 := List.nodup_append.1 hnd
  have n1 := List.nodup_append.1 n0.2.1
  have n2 := List.nodup_append.1 n1.2.1
  have n3 := List.nodup_append.1 n2.2.1
  have x02 : ∀ i ∈ f0, i ∉ f2 := fun i hi hj => n0.2.2 i hi i (by simp [hj]) rfl
  have x12 : ∀ i ∈ f1, i ∉ f2 := fun i hi hj => n1.2.2 i hi i (by simp [hj]) rfl
  have x23 : ∀ i ∈ f3, i ∉ f2 := fun i hi hj => n2.2.2 i hj i (by simp [hi]) rfl
  have x24 : ∀ i ∈ f4, i ∉ f2 := fun i hi hj => n2.2.2 i hj i (by simp [hi]) rfl
  have x04 : ∀ i ∈ f0, i ∉ f4 := fun i hi hj => n0.2.2 i hi i (by simp [hj]) rfl
  have x14 : ∀ i ∈ f1, i ∉ f4 := fun i hi hj => n1.2.2 i hi i (by simp [hj]) rfl
  have x34 : ∀ i ∈ f3, i ∉ f4 := fun i hi hj => n3.2.2 i hi i hj rfl
  have hi2 : id ∉ f2 := fun h => hid (by simp [h])
  have hi4 : id ∉ f4 := fun h => hid (by simp [h])
  have hlt0 := i0.lt okMinder
  have hlt1 := i1.lt
  have hlt3 := i3.lt
  have hlt2 := o2.lt
  have hidl := blkAt_len hb
  unfold Box.sz at hn
  simp only [Box.enc] at hb
  refine Runs.walk ok93 Try.func93 rfl (by simp [Try.f93]) fun Q hQ => ?_
  simp only [Try.f93, strip, stripL, stripI, stripG, chkT, tagsB, tagsL, tagD, addT, tagA, lookN, tagOp, elmT, ty22, ty23, ty28, ty29, ty37, ty38, ty39, ty40, ty41, ty50, ty51, ty52, ty53, ty72, ty81, ty141, ty189, Nat.reduceEqDiff, if_false, reduceIte, Option.getD_some, Option.getD_none, dstAt, dstOk, Nat.reduceLT, decide_true, if_true]
  simp [builtinV, pureB, lenV]
  refine wpS_loop (fun j tm H' => ∃ i, i + j = list.length ∧ tm 0 = .ptr id 0 0 ∧ tm 1 = .w (.lf (.sl a list.length)) ∧ tm 6 = .w (.lf (.sl a list.length)) ∧ tm 7 = .int list.length ∧ tm 8 = .int i ∧ Own H' 4 a2 (((list.take i).foldl gateStep x.gates).map encB) f2 ∧ Keep f2 H H') list.length (by rw [env_K]; omega) ⟨0, by simp, by simp, by simp, by simp, by simp, by simp, by simpa using o2, Keep.refl _ _⟩ ?_
  rintro j tm H1 hj ⟨i, hij, t0, t1, t6, t7, t8, ho, hK⟩ Q2 hn2 he2 hr2
  have b1 := hK.blk hb hi2
  have d1 := blkAt_len b1
  have hgl := accGates_len (list.take i) x.gates
  simp [t6, t7, t8]
  refine selS_intro (fun hc => ?_) (fun hc => ?_)
  · simp at hc
    obtain ⟨id2, r, bl, rfl, hbl, hbe, hrow⟩ := hsl H1 _ hK (fun i hi => by simp [hi]) i _ (by simp [hc]; rfl)
    have hid2 := blkAt_len hbl
    have g4 : IntKind.i64.wrap ((i : Int) + 1) = (i : Int) + 1 := wrap64 (by omega) (by omega)
    have g5 : IntKind.i64.wrap ((x.gates.length : Int) - 1) = (x.gates.length : Int) - 1 := wrap64 (by omega) (by omega)
    have hst := gates_step list x.gates hc
    obtain ⟨gs, hgs⟩ : ∃ gs, gs = (list.take i).foldl gateStep x.gates := ⟨_, rfl⟩
    rw [← hgs] at ho hst hgl
    obtain ⟨o, hoo⟩ : ∃ o, o = list[i] := ⟨_, rfl⟩
    rw [← hoo] at hst hrow
    have same : ∀ tm' G', gateStep gs o = gs → tm' 0 = .ptr id 0 0 → tm' 1 = .w (.lf (.sl (some (id2, r)) list.length)) → tm' 6 = .w (.lf (.sl (some (id2, r)) list.length)) → tm' 7 = .int list.length → tm' 8 = .int ((i : Int) + 1) → Q2 .normal tm' (H1 ++ G') := by
      intro tm' G' hx a0 a1 a6 a7 a8
      refine hn2 (j - 1) _ _ (by omega) ⟨i + 1, by omega, a0, a1, a6, a7, by simpa using a8, ?_, Keep.trans (h := f2) hK (Keep.app [] _ _) (fun _ hi _ => hi) (by simp)⟩
      rw [hst, hx]; exact ho.app _
    simp [t0, t1, t6, t7, t8, indexAddrV, elemIs, hid2, hbl, hbe, hc, hrow, Out.enc]
    by_cases hk : o.kind = 2
    · simp [hk, t0, b1, d1, builtinV, pureB, lenV, g5, inRange]
      by_cases hp : 0 ≤ o.port ∧ o.port ≤ (x.gates.length : Int) - 1
      · obtain ⟨k, hkp⟩ : ∃ k : Nat, o.port = k := ⟨o.port.toNat, by omega⟩
        have hkl : k < gs.length := by omega
        have hkl2 : k < x.gates.length := by omega
        obtain ⟨pid, pb, rfl, rfl, hpb, hpe, hpm, hpre⟩ := ho.blk (by intro h; have := congrArg List.length h; simp only [List.length_map, List.length_nil] at this; omega)
        have hpl := blkAt_len hpb
        obtain ⟨t, ht⟩ := hpre
        have hrw0 : pb.rows[k]? = some (encB gs[k]) := by
          rw [← ht, List.getElem?_append_left (by simp; omega), List.getElem?_map, List.getElem?_eq_getElem hkl]; rfl
        obtain ⟨hrl, hrw⟩ := List.getElem?_eq_some_iff.1 hrw0
        have hkI : (k : Int) < (x.gates.length : Int) := by omega
        have hpp : o.port ≤ (x.gates.length : Int) - 1 := hp.2
        rw [hkp] at hpp
        have hgst : gateStep gs o = gs.set k o.on := by
          unfold gateStep
          rw [if_pos ⟨hk, by omega, by omega⟩, hkp]; simp
        simp [hkp, hpp, t0, b1, d1, indexAddrV, elemIs, hpl, hpb, hpe, hpm, hkI, hkl2, hrl, hrw, encB, t6, t7, t8, g4]
        refine hn2 (j - 1) _ _ (by omega) ⟨i + 1, by omega, by simp [t0], by simp [t1], by simp [t6], by simp [t7], by simp, ?_, ?_⟩
        · have := ho.set (row := encB o.on) hpb (i := k) (by simp; omega)
          rw [hpm, hpe] at this
          rw [hst, hgst, List.map_set]
          simpa [encB] using this.app _
        · exact Keep.trans (h := [pid]) (hK.trans (h := [pid]) (Keep.set _ _) (by simp) (by simp)) (Keep.app [] _ _) (by simp) (by simp)
      · have hpf : (decide (0 ≤ o.port) && decide (o.port ≤ (x.gates.length : Int) - 1)) = false := by rw [Bool.and_eq_false_iff]; simp; omega
        simp [hpf, t0, t6, t7, t8, g4]
        refine same _ _ ?_ (by simp [t0]) (by simp [t1]) (by simp [t6]) (by simp [t7]) (by simp)
        unfold gateStep
        rw [if_neg]
        rintro ⟨-, h1, h2⟩
        omega
    · simp [hk, t0, t6, t7, t8, g4]
      refine same _ _ ?_ (by simp [t0]) (by simp [t1]) (by simp [t6]) (by simp [t7]) (by simp)
      unfold gateStep
      rw [if_neg]
      rintro ⟨h1, -⟩
      exact hk h1
  · simp at hc
    obtain rfl : i = list.length := by omega
    rw [List.take_length] at ho hgl
    simp [t0, t1, t6, t7, t8]
    refine he2 _ _ _ ?_
    have o41 := o4.keep hK x24
    have hlt41 := o41.lt
    have h01 := hK.1
    simp [t0, t1, b1, d1]
    refine stpL_append (rows := x.said.map Out.enc) (ys := list.map Out.enc) o41 (hsl H1 _ hK (fun i hi => by simp [hi])) rfl rfl rfl (by simp) (by simp; omega) (by simp) (by simp) fun a'' H'' fp'' ho'' hk'' hf'' => ?_
    rw [← List.map_append] at ho''
    have b2 := hk''.blk b1 hi4
    simp [t0]
    refine stpL_runs (lastSaid (xs := x.said ++ list) (fp := fp'') ⟨a'', by simp, ho''⟩ (by simp; omega)) ?_
    rintro _ _ ⟨_, f9, rfl, ⟨a9, rfl, o9⟩, ⟨⟨G9, rfl⟩, hf9⟩⟩
    have b3 := blkAt_app b2 G9
    have d3 := blkAt_len b3
    simp [t0, b3, d3]
    have h12 := hk''.1
    have hl9 := o9.lt
    obtain ⟨HF, hHF⟩ : ∃ HF : Heap, HF = (H'' ++ G9).set id (some ⟨43, .wr, [[.i .i64 x.id, .i .i64 x.ports, .i .i64 x.reg.epoch, .i .i64 x.reg.owner, .i .i64 x.reg.pair, q0, q1, .sl a2 x.gates.length, q3, .sl a9 (lastL (x.said ++ list)).length]]⟩) := ⟨_, rfl⟩
    have hset : id < H''.length := blkAt_len b2
    have kF : Keep [id] (H'' ++ G9) HF := by rw [hHF]; exact Keep.set _ _
    have bF : blkAt HF id = some ⟨43, .wr, [[.i .i64 x.id, .i .i64 x.ports, .i .i64 x.reg.epoch, .i .i64 x.reg.owner, .i .i64 x.reg.pair, q0, q1, .sl a2 x.gates.length, q3, .sl a9 (lastL (x.said ++ list)).length]]⟩ := by rw [hHF]; exact blkAt_set d3
    rw [← hHF]
    clear hHF
    have n_0 : ∀ i ∈ f0, i ∉ [id] := fun i hi hj => by simp at hj; subst hj; exact hid (by simp [hi])
    have n_1 : ∀ i ∈ f1, i ∉ [id] := fun i hi hj => by simp at hj; subst hj; exact hid (by simp [hi])
    have n_2 : ∀ i ∈ f2, i ∉ [id] := fun i hi hj => by simp at hj; subst hj; exact hid (by simp [hi])
    have n_3 : ∀ i ∈ f3, i ∉ [id] := fun i hi hj => by simp at hj; subst hj; exact hid (by simp [hi])
    have p0 := (((i0.keep okMinder hK x02).keep okMinder hk'' x04).keep okMinder (Keep.app [] _ G9) (by simp)).keep okMinder kF n_0
    have p1 := (((i1.keep hK x12).keep hk'' x14).keep (Keep.app [] _ G9) (by simp)).keep kF n_1
    have p2 := ((ho.keep hk'' (fun i hi hj => x24 i hj hi)).keep (Keep.app [] _ G9) (by simp)).keep kF n_2
    have p3 := (((i3.keep hK x23).keep hk'' x34).keep (Keep.app [] _ G9) (by simp)).keep kF n_3
    have p4 := o9.keep kF (fun i hi hj => by have := hf9 i hi; simp at hj; omega)
    have hIF : IsBox HF [.i .i64 x.id, .i .i64 x.ports, .i .i64 x.reg.epoch, .i .i64 x.reg.owner, .i .i64 x.reg.pair, q0, q1, .sl a2 x.gates.length, q3, .sl a9 (lastL (x.said ++ list)).length] (acceptB x list) (f0 ++ (f1 ++ (f2 ++ (f3 ++ f9)))) :=
      ⟨q0, q1, _, q3, _, f0, f1, f2, f3, f9, rfl, p0, p1, ⟨a2, by simp [acceptB, accGates_len], p2⟩, p3, ⟨a9, rfl, p4⟩, rfl,
        nodup_app n0.1 (nodup_app n1.1 (nodup_app n2.1 (nodup_app n3.1 o9.nodup fun i hi hj => by have := hlt3 i hi; have := hf9 i hj; omega) fun i hi hj => by
          rcases List.mem_append.1 hj with hj | hj
          · exact x23 i hj hi
          · have := hlt2 i hi; have := hf9 i hj; omega) fun i hi hj => by
          rcases List.mem_append.1 hj with hj | hj
          · exact x12 i hi hj
          · rcases List.mem_append.1 hj with hj | hj
            · exact n1.2.2 i hi i (by simp [hj]) rfl
            · have := hlt1 i hi; have := hf9 i hj; omega) fun i hi hj => by
          rcases List.mem_append.1 hj with hj | hj
          · exact n0.2.2 i hi i (by simp [hj]) rfl
          · rcases List.mem_append.1 hj with hj | hj
            · exact x02 i hi hj
            · rcases List.mem_append.1 hj with hj | hj
              · exact n0.2.2 i hi i (by simp [hj]) rfl
              · have := hlt0 i hi; have := hf9 i hj; omega⟩
    have hKF : Keep (id :: (f0 ++ (f1 ++ (f2 ++ (f3 ++ f4))))) H HF := by
      have a1 := hK.trans (h := id :: (f0 ++ (f1 ++ (f2 ++ (f3 ++ f4))))) hk'' (fun i hi _ => by simp [hi]) (fun i hi _ => by simp [hi])
      have a2 := a1.trans (h := id :: (f0 ++ (f1 ++ (f2 ++ (f3 ++ f4))))) (Keep.app [] H'' G9) (fun i hi _ => hi) (by simp)
      exact a2.trans (h := id :: (f0 ++ (f1 ++ (f2 ++ (f3 ++ f4))))) kF (fun i hi _ => hi) (fun i hi _ => by simp at hi; simp [hi])
    refine hQ _ _ _ (by simp) ?_
    simp [Try.f93]
    obtain ⟨fp2, z1, z2, z3, z4⟩ := leave_box hb0 hI0 bF hIF hKF (fun i hi => by
      rcases List.mem_append.1 hi with hi | hi
      · exact .inl (by simp [hi])
      · rcases List.mem_append.1 hi with hi | hi
        · exact .inl (by simp [hi])
        · rcases List.mem_append.1 hi with hi | hi
          · exact .inl (by simp [hi])
          · rcases List.mem_append.1 hi with hi | hi
            · exact .inl (by simp [hi])
            · exact .inr (by have := hf9 i hi; omega)) ([] : List W)
    exact ⟨_, z1, fp2, z2, by simpa using z3, by simpa using z4⟩

theorem implAccept_is {H : Heap} {l : List Lf} {x : Box} (h : RdBox H l x) (hn : x.sz ≤ 1048576) {q : Lf} {list : List Out} (hl : RdOutS H q list) (hln : list.length ≤ 1048576) (s : Int) (_ : I64 s) :
    Runs env 30 [.agg l, .int s, .w (.lf q)] H fun v H' => ∃ l' fp, v = .agg l' ∧ IsBox H' l' (accept x s list) fp ∧ Fresh H H' fp := by
  have hR := h
  obtain ⟨q0, q1, q2, q3, q4, rfl, ⟨a0, rws, rfl, hs, hlen, hat⟩, r1, r2, r3, r4⟩ := h
  obtain ⟨a, rfl, hsl⟩ := hl
  have hn0 := hn
  unfold Box.sz at hn
  have hl0 := MinderS.sz_len x.two
  refine Runs.walk ok30 Try.func30 rfl (by simp [Try.f30]) fun Q hQ => ?_
  simp only [Try.f30, strip, stripL, stripI, stripG, chkT, tagsB, tagsL, tagD, addT, tagA, lookN, tagOp, elmT, ty22, ty23, ty28, ty29, ty37, ty38, ty39, ty40, ty41, ty50, ty51, ty52, ty53, ty72, ty81, ty141, ty189, Nat.reduceEqDiff, if_false, reduceIte, Option.getD_some, Option.getD_none, dstAt, dstOk, Nat.reduceLT, decide_true, if_true]
  simp [Box.enc]
  refine stpL_runs (copyBox (hR.app _) hn0) ?_
  rintro _ _ ⟨l1, f1, rfl, o1, ⟨⟨G1, rfl⟩, hf1⟩⟩
  have hL1 := o1.len
  have hT1 : l1.take l1.length = l1 := List.take_length
  rw [hL1] at hT1
  have hlt1 := o1.lt
  have o1' := o1.app [some ⟨43, .wr, [l1]⟩]
  simp only [List.append_assoc, List.cons_append, List.nil_append, Box.enc] at o1'
  simp [hL1, hT1]
  obtain ⟨H3, hH3⟩ : ∃ H3 : Heap, H3 = H ++ some ⟨43, .wr, [[.i .i64 x.id, .i .i64 x.ports, .i .i64 x.reg.epoch, .i .i64 x.reg.owner, .i .i64 x.reg.pair, .sl a0 x.two.length, q1, q2, q3, q4]]⟩ :: some ⟨43, .wr, [[.i .i64 0, .i .i64 0, .i .i64 0, .i .i64 0, .i .i64 0, .sl none 0, .sl none 0, .sl none 0, .sl none 0, .sl none 0]]⟩ :: (G1 ++ [some ⟨43, .wr, [l1]⟩]) := ⟨_, rfl⟩
  have b1 : blkAt H3 H.length = some ⟨43, .wr, [[.i .i64 x.id, .i .i64 x.ports, .i .i64 x.reg.epoch, .i .i64 x.reg.owner, .i .i64 x.reg.pair, .sl a0 x.two.length, q1, q2, q3, q4]]⟩ := by rw [hH3]; simp
  have b2 : blkAt H3 (H.length + 1) = some ⟨43, .wr, [[.i .i64 0, .i .i64 0, .i .i64 0, .i .i64 0, .i .i64 0, .sl none 0, .sl none 0, .sl none 0, .sl none 0, .sl none 0]]⟩ := by rw [hH3]; simp
  obtain ⟨K7, hK7⟩ : ∃ K7, K7 = H.length + (G1.length + 2) := ⟨_, rfl⟩
  have b7 : blkAt H3 K7 = some ⟨43, .wr, [l1]⟩ := by rw [hH3, hK7]; simp
  have o3 : IsBox H3 l1 x f1 := by rw [hH3]; exact o1'
  have k03 : Keep [] H H3 := by rw [hH3]; exact Keep.app _ _ _
  have n7 : ∀ i ∈ f1, H.length + 2 ≤ i ∧ i < K7 := fun i hi => by have h1 := hf1 _ hi; have h2 := hlt1 _ hi; simp only [List.length_append, List.length_cons, List.length_nil] at h1 h2; omega
  have d1 := blkAt_len b1
  have d2 := blkAt_len b2
  have d7 := blkAt_len b7
  have hK7g : H.length + 2 ≤ K7 := by omega
  rw [← hH3, ← hK7]
  clear hH3 o1 o1' hf1 hlt1 hK7
  have fin : ∀ (HF : Heap) (tm : Ab.T) (l' : List Lf) (y : Box) (f' : List Nat), tm 6 = .ptr (H.length + 1) 0 0 → blkAt HF (H.length + 1) = some ⟨43, .wr, [l']⟩ → IsBox HF l' y f' → y = accept x s list → Keep [] H HF → (∀ i ∈ f', H.length ≤ i) → Q .ret tm HF := by
    intro HF tm l' y f' t6 hb4 ho4 hy hK hf
    have hL' := ho4.len
    have hT' : l'.take l'.length = l' := List.take_length
    rw [hL'] at hT'
    refine hQ _ _ _ (by simp) ?_
    have hres : resT env.τ tm HF (Try.f30.results.toList) = some [W.agg l'] := by simp [Try.f30, t6, hb4, hL', hT']
    rw [hres, optK_some, ← hy]
    obtain ⟨fp, h1, h2⟩ := ho4.leave (H := H) (ws := [W.agg l']) ⟨hK.ext, hf⟩ (by simp)
    exact ⟨_, fp, rfl, h1, h2⟩
  have no : mindsAt x s = false → ∀ tm : Ab.T, tm 6 = .ptr (H.length + 1) 0 0 → Q .ret tm (H3.set (H.length + 1) (some ⟨43, .wr, [l1]⟩)) := by
    intro hm tm t6
    refine fin _ _ l1 x f1 t6 (blkAt_set d2) (o3.keep (Keep.set _ _) (fun i hi hj => by have := n7 i hi; simp at hj; omega)) (by simp [accept, hm]) (k03.next (Keep.set _ _) (by simp)) (fun i hi => by have := n7 i hi; omega)
  have g : IntKind.i64.wrap ((x.two.length : Int) - 1) = (x.two.length : Int) - 1 := wrap64 (by omega) (by omega)
  simp [b1, d1, builtinV, pureB, lenV, g]
  by_cases hc : 0 ≤ s ∧ s ≤ (x.two.length : Int) - 1
  · obtain ⟨k, rfl⟩ : ∃ k : Nat, s = k := ⟨s.toNat, by omega⟩
    have hk : k < x.two.length := by omega
    have hri : k < rws.length := by omega
    obtain ⟨id2, r, bl, rfl, hbl, hbe, hrow⟩ := (hs.keep k03 (by simp)) k _ (List.getElem?_eq_getElem hri)
    have hid := blkAt_len hbl
    have he := (hat k _ _ (List.getElem?_eq_getElem hri) (List.getElem?_eq_getElem hk)).base k03
    have hL := he.len
    have hT : rws[k].take rws[k].length = rws[k] := List.take_length
    rw [hL] at hT
    have hszi := MinderS.sz_at (List.getElem_mem hk)
    have e1 := implMinds_is he (by omega) x.reg (k : Int) ⟨by omega, by omega⟩
    simp only [Reg.enc] at e1
    have hkl : (k : Int) ≤ (x.two.length : Int) - 1 := by omega
    have hm : mindsAt x k = minds x.reg k x.two[k] := by
      unfold mindsAt
      simp [hkl, List.getD, List.getElem?_eq_getElem hk]
    simp [inRange, hkl, b1, d1, indexAddrV, elemIs, hid, hbl, hbe, hk, hrow, hL, hT, e1]
    rw [← hm]
    cases hmm : mindsAt x k
    · simp [b2, b7, d2, d7, hL1, hT1]
      exact no hmm _ (by simp)
    · simp
      refine stpL_runs (acceptM b7 o3 (fun hi => by have := n7 _ hi; omega) hn0 (hsl.keep k03 (by simp)) ?_ hln) ?_
      · intro i r ha hne
        have := Sl.len (by rw [ha] at hsl; exact hsl) (by simpa using hne)
        exact ⟨fun hi => by have := n7 i hi; omega, by omega⟩
      rintro _ H4 ⟨rfl, l4, f4, b74, o4, k4, hf4⟩
      have hL4 := o4.len
      have hT4 : l4.take l4.length = l4 := List.take_length
      rw [hL4] at hT4
      have b24 := k4.blk b2 (by simp; exact ⟨by omega, fun hi => by have := n7 _ hi; omega⟩)
      have d24 := blkAt_len b24
      have d74 := blkAt_len b74
      have h34 := k03.1
      have hge : ∀ i ∈ f4, H.length + 2 ≤ i := fun i hi => by
        rcases hf4 i hi with h | h
        · exact (n7 i h).1
        · omega
      simp [b24, b74, d24, d74, hL4, hT4]
      refine fin _ _ l4 (acceptB x list) f4 (by simp) (blkAt_set d24) (o4.keep (Keep.set _ _) (fun i hi hj => by have := hge i hi; simp at hj; omega)) (by simp [accept, hmm]) ((k03.next k4 (fun i hi => by
        rcases List.mem_cons.1 hi with rfl | hi
        · omega
        · have := n7 i hi; omega)).next (Keep.set _ _) (by simp)) (fun i hi => by have := hge i hi; omega)
  · have hcf : (decide (0 ≤ s) && decide (s ≤ (x.two.length : Int) - 1)) = false := by
      rw [Bool.and_eq_false_iff]; simp; omega
    simp [inRange, hcf, b2, b7, d2, d7, hL1, hT1]
    exact no (by simp [mindsAt, hcf]) _ (by simp)

theorem specAccept_is {H : Heap} {l : List Lf} {x : Box} (h : RdBox H l x) (hn : x.sz ≤ 1048576) {q : Lf} {list : List Out} (hl : RdOutS H q list) (hln : list.length ≤ 1048576) (s : Int) (_ : I64 s) :
    Runs env 27 [.agg l, .int s, .w (.lf q)] H fun v H' => ∃ l' fp, v = .agg l' ∧ IsBox H' l' (accept x s list) fp ∧ Fresh H H' fp := by
  have hR := h
  have hL0 := h.len
  have hT0 : l.take l.length = l := List.take_length
  rw [hL0] at hT0
  obtain ⟨a, rfl, hsl⟩ := hl
  have e1 := fun G => l14Minds (hR.app G) hn s
  refine Runs.walk ok27 Try.func27 rfl (by simp [Try.f27]) fun Q hQ => ?_
  simp only [Try.f27, strip, stripL, stripI, stripG, chkT, tagsB, tagsL, tagD, addT, tagA, lookN, tagOp, elmT, ty22, ty23, ty28, ty29, ty37, ty38, ty39, ty40, ty41, ty50, ty51, ty52, ty53, ty72, ty81, ty141, ty189, Nat.reduceEqDiff, if_false, reduceIte, Option.getD_some, Option.getD_none, dstAt, dstOk, Nat.reduceLT, decide_true, if_true]
  simp [hL0, hT0]
  refine stpL_runs (specCopyBox (hR.app _) hn) ?_
  rintro _ _ ⟨l1, f1, rfl, o1, ⟨⟨G1, rfl⟩, hf1⟩⟩
  have hL1 := o1.len
  have hT1 : l1.take l1.length = l1 := List.take_length
  rw [hL1] at hT1
  have hlt1 := o1.lt
  have o1' := o1.app [some ⟨43, .wr, [l1]⟩]
  simp only [List.append_assoc, List.cons_append, List.nil_append] at o1'
  simp [hL0, hT0, hL1, hT1, e1]
  obtain ⟨H3, hH3⟩ : ∃ H3 : Heap, H3 = H ++ some ⟨43, .wr, [l]⟩ :: some ⟨43, .wr, [[.i .i64 0, .i .i64 0, .i .i64 0, .i .i64 0, .i .i64 0, .sl none 0, .sl none 0, .sl none 0, .sl none 0, .sl none 0]]⟩ :: (G1 ++ [some ⟨43, .wr, [l1]⟩]) := ⟨_, rfl⟩
  have b2 : blkAt H3 (H.length + 1) = some ⟨43, .wr, [[.i .i64 0, .i .i64 0, .i .i64 0, .i .i64 0, .i .i64 0, .sl none 0, .sl none 0, .sl none 0, .sl none 0, .sl none 0]]⟩ := by rw [hH3]; simp
  obtain ⟨K7, hK7⟩ : ∃ K7, K7 = H.length + (G1.length + 2) := ⟨_, rfl⟩
  have b7 : blkAt H3 K7 = some ⟨43, .wr, [l1]⟩ := by rw [hH3, hK7]; simp
  have o3 : IsBox H3 l1 x f1 := by rw [hH3]; exact o1'
  have k03 : Keep [] H H3 := by rw [hH3]; exact Keep.app _ _ _
  have n7 : ∀ i ∈ f1, H.length + 2 ≤ i ∧ i < K7 := fun i hi => by have h1 := hf1 _ hi; have h2 := hlt1 _ hi; simp only [List.length_append, List.length_cons, List.length_nil] at h1 h2; omega
  have d2 := blkAt_len b2
  have d7 := blkAt_len b7
  have hK7g : H.length + 2 ≤ K7 := by omega
  have hl3 : H3.length = K7 + 1 := by rw [hH3, hK7]; simp
  rw [← hH3, ← hK7]
  clear hH3 o1 o1' hf1 hlt1 hK7
  have fin : ∀ (HF : Heap) (tm : Ab.T) (l' : List Lf) (y : Box) (f' : List Nat), tm 6 = .ptr (H.length + 1) 0 0 → blkAt HF (H.length + 1) = some ⟨43, .wr, [l']⟩ → IsBox HF l' y f' → y = accept x s list → Keep [] H HF → (∀ i ∈ f', H.length ≤ i) → Q .ret tm HF := by
    intro HF tm l' y f' t6 hb4 ho4 hy hK hf
    have hL' := ho4.len
    have hT' : l'.take l'.length = l' := List.take_length
    rw [hL'] at hT'
    refine hQ _ _ _ (by simp) ?_
    have hres : resT env.τ tm HF (Try.f27.results.toList) = some [W.agg l'] := by simp [Try.f27, t6, hb4, hL', hT']
    rw [hres, optK_some, ← hy]
    obtain ⟨fp, h1, h2⟩ := ho4.leave (H := H) (ws := [W.agg l']) ⟨hK.ext, hf⟩ (by simp)
    exact ⟨_, fp, rfl, h1, h2⟩
  cases hmm : mindsAt x s
  · simp [b2, b7, d2, d7, hL1, hT1]
    exact fin _ _ l1 x f1 (by simp) (blkAt_set d2) (o3.keep (Keep.set _ _) (fun i hi hj => by have := n7 i hi; simp at hj; omega)) (by simp [accept, hmm]) (k03.next (Keep.set _ _) (by simp)) (fun i hi => by have := n7 i hi; omega)
  have hacc : accept x s list = acceptB x list := by simp [accept, hmm]
  rw [hacc] at fin
  obtain ⟨q0, q1, q2, q3, q4, f0, f1', f2, f3, f4, rfl, i0, i1, ⟨a2, rfl, o2⟩, i3, ⟨a4, rfl, o4⟩, rfl, hnd⟩ := o3
  clear hL1 hT1
  unfold Box.sz at hn
  have hsl3 := hsl.keep k03 (by simp)
  have nd0 := List.nodup_append.1 hnd
  have nd1 := List.nodup_append.1 nd0.2.1
  have nd2 := List.nodup_append.1 nd1.2.1
  have nd3 := List.nodup_append.1 nd2.2.1
  have x02 : ∀ i ∈ f0, i ∉ f2 := fun i hi hj => nd0.2.2 i hi i (by simp [hj]) rfl
  have x12 : ∀ i ∈ f1', i ∉ f2 := fun i hi hj => nd1.2.2 i hi i (by simp [hj]) rfl
  have x23 : ∀ i ∈ f3, i ∉ f2 := fun i hi hj => nd2.2.2 i hj i (by simp [hi]) rfl
  have x24 : ∀ i ∈ f4, i ∉ f2 := fun i hi hj => nd2.2.2 i hj i (by simp [hi]) rfl
  have x04 : ∀ i ∈ f0, i ∉ f4 := fun i hi hj => nd0.2.2 i hi i (by simp [hj]) rfl
  have x14 : ∀ i ∈ f1', i ∉ f4 := fun i hi hj => nd1.2.2 i hi i (by simp [hj]) rfl
  have x34 : ∀ i ∈ f3, i ∉ f4 := fun i hi hj => nd3.2.2 i hi i hj rfl
  have m2 : ∀ i ∈ f2, H.length + 2 ≤ i ∧ i < K7 := fun i hi => n7 i (by simp [hi])
  have m4 : ∀ i ∈ f4, H.length + 2 ≤ i ∧ i < K7 := fun i hi => n7 i (by simp [hi])
  have hslk : ∀ H', Keep (K7 :: (f2 ++ f4)) H3 H' → Sl H' 113 a (list.map Out.enc) := fun H' hk => by
    by_cases hx : list = []
    · subst hx; exact fun i row h => by simp at h
    · refine hsl3.keep hk (fun i r h hi => ?_)
      have := Sl.len (by rw [h] at hsl; exact hsl) (by simpa using hx)
      simp at hi
      rcases hi with rfl | hi | hi
      · omega
      · have := m2 i hi; omega
      · have := m4 i hi; omega
  simp [Box.enc] at b7
  simp
  refine wpS_loop (fun j tm H' => ∃ i a5 f5, i + j = list.length ∧ tm 2 = .w (.lf (.sl a list.length)) ∧ tm 6 = .ptr (H.length + 1) 0 0 ∧ tm 7 = .ptr K7 0 0 ∧ tm 8 = .int i ∧ blkAt H' K7 = some ⟨43, .wr, [[.i .i64 x.id, .i .i64 x.ports, .i .i64 x.reg.epoch, .i .i64 x.reg.owner, .i .i64 x.reg.pair, q0, q1, .sl a2 x.gates.length, q3, .sl a5 (x.said.length + i)]]⟩ ∧ Own H' 4 a2 (((list.take i).foldl gateStep x.gates).map encB) f2 ∧ Own H' 113 a5 ((x.said ++ list.take i).map Out.enc) f5 ∧ (∀ j ∈ f5, j ∈ f4 ∨ H3.length ≤ j) ∧ Keep (K7 :: (f2 ++ f4)) H3 H') list.length (by rw [env_K]; omega)
    ⟨0, a4, f4, by simp, by simp, by simp, by simp, by simp, by simpa using b7, by simpa using o2, by simpa using o4, fun j hj => .inl hj, Keep.refl _ _⟩ ?_
  rintro j tm H1 hj ⟨i, a5, f5, hij, t2, t6, t7, t8, c7, ho, ho5, hf5, hK⟩ Q2 hn2 he2 hr2
  have d7' := blkAt_len c7
  have h31 := hK.1
  have hgl := accGates_len (list.take i) x.gates
  simp [t2, t8, builtinV, pureB, lenV]
  refine selS_intro (fun hc => ?_) (fun hc => ?_)
  · simp at hc
    obtain ⟨id2, r, bl, rfl, hbl, hbe, hrow⟩ := hslk H1 hK i _ (by simp [hc]; rfl)
    have hid2 := blkAt_len hbl
    have g4 : IntKind.i64.wrap ((i : Int) + 1) = (i : Int) + 1 := wrap64 (by omega) (by omega)
    have g5 : IntKind.i64.wrap ((x.gates.length : Int) - 1) = (x.gates.length : Int) - 1 := wrap64 (by omega) (by omega)
    have hst := gates_step list x.gates hc
    have htk : list.take (i + 1) = list.take i ++ [list[i]] := by rw [List.take_add_one, List.getElem?_eq_getElem hc]; rfl
    obtain ⟨gs, hgs⟩ : ∃ gs, gs = (list.take i).foldl gateStep x.gates := ⟨_, rfl⟩
    rw [← hgs] at ho hst hgl
    obtain ⟨o, hoo⟩ : ∃ o, o = list[i] := ⟨_, rfl⟩
    rw [← hoo] at hst hrow htk
    have hfx : ∀ j ∈ f5, j ∉ f2 ∧ j ≠ K7 := fun j hj => by
      rcases hf5 j hj with h | h
      · exact ⟨x24 j h, by have := m4 j h; omega⟩
      · exact ⟨fun h2 => by have := m2 j h2; omega, by omega⟩
    simp [t2, t7, t8, indexAddrV, elemIs, hid2, hbl, hbe, hc, hrow, Out.enc]
    have hne7 : id2 ≠ K7 := by
      have h1 := Sl.len hsl (by simp; intro h; rw [h] at hc; simp at hc)
      omega
    by_cases hk : o.kind = 2
    · simp [hk, t2, t7, t8, c7, d7', indexAddrV, elemIs, hid2, hbl, hbe, hc, hrow, Out.enc, builtinV, pureB, lenV, g5, l1In]
      by_cases hp : 0 ≤ o.port ∧ o.port ≤ (x.gates.length : Int) - 1
      · obtain ⟨k, hkp⟩ : ∃ k : Nat, o.port = k := ⟨o.port.toNat, by omega⟩
        have hkl : k < gs.length := by omega
        have hkl2 : k < x.gates.length := by omega
        obtain ⟨pid, pb, rfl, rfl, hpb, hpe, hpm, hpre⟩ := ho.blk (by intro h; have := congrArg List.length h; simp only [List.length_map, List.length_nil] at this; omega)
        have hpl := blkAt_len hpb
        obtain ⟨t, ht⟩ := hpre
        have hrw0 : pb.rows[k]? = some (encB gs[k]) := by
          rw [← ht, List.getElem?_append_left (by simp; omega), List.getElem?_map, List.getElem?_eq_getElem hkl]; rfl
        obtain ⟨hrl, hrw⟩ := List.getElem?_eq_some_iff.1 hrw0
        have hkI : (k : Int) < (x.gates.length : Int) := by omega
        have hpp : o.port ≤ (x.gates.length : Int) - 1 := hp.2
        have hpp0 := hpp
        rw [hkp] at hpp
        have hgst : gateStep gs o = gs.set k o.on := by
          unfold gateStep
          rw [if_pos ⟨hk, by omega, by omega⟩, hkp]; simp
        have hpid := m2 pid (by simp)
        have hidp : id2 ≠ pid := by
          have h1 := Sl.len hsl (by simp; intro h; rw [h] at hc; simp at hc)
          omega
        simp [hkp, hpp, t2, t7, t8, c7, d7', indexAddrV, elemIs, hid2, hbl, hbe, hc, hrow, Out.enc, hpl, hpb, hpe, hpm, hkI, hkl2, hrl, hrw, encB]
        obtain ⟨HP, hHP0⟩ : ∃ HP : Heap, HP = H1.set pid (some ⟨4, .wr, pb.rows.set k [.b o.on]⟩) := ⟨_, rfl⟩
        have kP : Keep [pid] H1 HP := by rw [hHP0]; exact Keep.set _ _
        have oP : Own HP 4 (some (pid, 0)) ((gateStep gs o).map encB) [pid] := by
          have := ho.set (row := encB o.on) hpb (i := k) (by simp; omega)
          rw [hpm, hpe] at this
          rw [hHP0, hgst, List.map_set]
          simpa [encB] using this
        have c7P := kP.blk c7 (by simp; omega)
        have d7P := blkAt_len c7P
        have hblP := kP.blk hbl (by simp; exact hidp)
        have hid2P := blkAt_len hblP
        have o5P := ho5.keep kP (fun i hi => (hfx i hi).1)
        rw [← hHP0]
        clear hHP0
        simp [t2, t7, t8, c7P, d7P, indexAddrV, elemIs, hid2P, hblP, hbe, hc, hrow, Out.enc]
        refine stpL_append (rows := (x.said ++ list.take i).map Out.enc) (ys := [[.i .i64 o.kind, .i .i64 o.port, .i .i64 o.vec.root, .i .i64 o.vec.cost, .i .i64 o.vec.bridge, .i .i64 o.vec.port, .i .i64 o.hops, .b o.on]]) (o5P.app _) (Sl.of (by simp)) rfl rfl rfl (by simp) (by simp; omega) (by simp; omega) rfl fun a'' H'' fp'' ho'' hk'' hf'' => ?_
        have c7'' := hk''.blk (blkAt_app c7P _) (fun h => (hfx _ h).2 rfl)
        have d7'' := blkAt_len c7''
        have hHP : H1.length ≤ HP.length := kP.1
        have ks := fun y => Keep.set (id := K7) H'' y
        have kA : Keep (K7 :: ([pid] ++ f4)) H3 H'' := by
          have z1 := hK.trans (h := K7 :: ([pid] ++ f4)) kP (fun _ h _ => h) (fun i h _ => by simp at h; simp [h])
          have z2 := z1.trans (h := K7 :: ([pid] ++ f4)) (Keep.app [] HP [some ⟨113, .wr, [[.i .i64 o.kind, .i .i64 o.port, .i .i64 o.vec.root, .i .i64 o.vec.cost, .i .i64 o.vec.bridge, .i .i64 o.vec.port, .i .i64 o.hops, .b o.on]]⟩]) (fun _ h _ => h) (by simp)
          exact z2.trans (h := K7 :: ([pid] ++ f4)) hk'' (fun _ h _ => h) (fun i h hl => by
            rcases hf5 i h with h | h
            · simp [h]
            · omega)
        simp [t2, t6, t7, t8, c7'', d7'', g4]
        refine hn2 (j - 1) _ _ (by omega) ⟨i + 1, a'', fp'', by omega, by simp [t2], by simp [t6], by simp [t7], by simp, by rw [blkAt_set d7'', Nat.add_assoc], ?_, ?_, fun j hj => ?_, kA.trans (h := K7 :: ([pid] ++ f4)) (ks _) (fun _ h _ => h) (fun i h _ => by simp at h; simp [h])⟩
        · rw [hst]
          exact ((oP.app _).keep hk'' (fun i hi hj => (hfx i hj).1 hi)).keep (ks _) (fun i hi hj => by have := m2 i hi; simp at hj; omega)
        · rw [htk, ← List.append_assoc, List.map_append]
          refine Own.keep (f := [K7]) (by simpa [Out.enc] using ho'') (ks _) (fun i hi hj => ?_)
          simp at hj
          rcases hf'' i hi with h | h
          · exact (hfx i h).2 hj
          · rw [List.length_append] at h; omega
        · rcases hf'' j hj with h | h
          · exact hf5 j h
          · rw [List.length_append] at h; exact .inr (by omega)
      · have hpf : (decide (0 ≤ o.port) && decide (o.port ≤ (x.gates.length : Int) - 1)) = false := by rw [Bool.and_eq_false_iff]; simp; omega
        have hsame : Own H1 4 a2 ((gateStep gs o).map encB) f2 := by
          unfold gateStep
          rw [if_neg (by rintro ⟨-, h1, h2⟩; omega)]
          exact ho
        simp [hpf]
        simp [t2, t7, t8, c7, d7', indexAddrV, elemIs, hid2, hbl, hbe, hc, hrow, Out.enc]
        refine stpL_append (rows := (x.said ++ list.take i).map Out.enc) (ys := [[.i .i64 o.kind, .i .i64 o.port, .i .i64 o.vec.root, .i .i64 o.vec.cost, .i .i64 o.vec.bridge, .i .i64 o.vec.port, .i .i64 o.hops, .b o.on]]) (ho5.app _) (Sl.of (by simp)) rfl rfl rfl (by simp) (by simp; omega) (by simp; omega) rfl fun a'' H'' fp'' ho'' hk'' hf'' => ?_
        have c7'' := hk''.blk (blkAt_app c7 _) (fun h => (hfx _ h).2 rfl)
        have d7'' := blkAt_len c7''
        have hHP : H1.length ≤ H1.length := (Keep.refl f2 H1).1
        have ks := fun y => Keep.set (id := K7) H'' y
        have kA : Keep (K7 :: (f2 ++ f4)) H3 H'' := by
          have z1 := hK.trans (h := K7 :: (f2 ++ f4)) (Keep.refl f2 H1) (fun _ h _ => h) (fun i h _ => by simp [h])
          have z2 := z1.trans (h := K7 :: (f2 ++ f4)) (Keep.app [] H1 [some ⟨113, .wr, [[.i .i64 o.kind, .i .i64 o.port, .i .i64 o.vec.root, .i .i64 o.vec.cost, .i .i64 o.vec.bridge, .i .i64 o.vec.port, .i .i64 o.hops, .b o.on]]⟩]) (fun _ h _ => h) (by simp)
          exact z2.trans (h := K7 :: (f2 ++ f4)) hk'' (fun _ h _ => h) (fun i h hl => by
            rcases hf5 i h with h | h
            · simp [h]
            · omega)
        simp [t2, t6, t7, t8, c7'', d7'', g4]
        refine hn2 (j - 1) _ _ (by omega) ⟨i + 1, a'', fp'', by omega, by simp [t2], by simp [t6], by simp [t7], by simp, by rw [blkAt_set d7'', Nat.add_assoc], ?_, ?_, fun j hj => ?_, kA.trans (h := K7 :: (f2 ++ f4)) (ks _) (fun _ h _ => h) (fun i h _ => by simp at h; simp [h])⟩
        · rw [hst]
          exact ((hsame.app _).keep hk'' (fun i hi hj => (hfx i hj).1 hi)).keep (ks _) (fun i hi hj => by have := m2 i hi; simp at hj; omega)
        · rw [htk, ← List.append_assoc, List.map_append]
          refine Own.keep (f := [K7]) (by simpa [Out.enc] using ho'') (ks _) (fun i hi hj => ?_)
          simp at hj
          rcases hf'' i hi with h | h
          · exact (hfx i h).2 hj
          · rw [List.length_append] at h; omega
        · rcases hf'' j hj with h | h
          · exact hf5 j h
          · rw [List.length_append] at h; exact .inr (by omega)
    · have hsame : Own H1 4 a2 ((gateStep gs o).map encB) f2 := by
        unfold gateStep
        rw [if_neg (by rintro ⟨h1, -⟩; exact hk h1)]
        exact ho
      simp [hk]
      simp [t2, t7, t8, c7, d7', indexAddrV, elemIs, hid2, hbl, hbe, hc, hrow, Out.enc]
      refine stpL_append (rows := (x.said ++ list.take i).map Out.enc) (ys := [[.i .i64 o.kind, .i .i64 o.port, .i .i64 o.vec.root, .i .i64 o.vec.cost, .i .i64 o.vec.bridge, .i .i64 o.vec.port, .i .i64 o.hops, .b o.on]]) (ho5.app _) (Sl.of (by simp)) rfl rfl rfl (by simp) (by simp; omega) (by simp; omega) rfl fun a'' H'' fp'' ho'' hk'' hf'' => ?_
      have c7'' := hk''.blk (blkAt_app c7 _) (fun h => (hfx _ h).2 rfl)
      have d7'' := blkAt_len c7''
      have hHP : H1.length ≤ H1.length := (Keep.refl f2 H1).1
      have ks := fun y => Keep.set (id := K7) H'' y
      have kA : Keep (K7 :: (f2 ++ f4)) H3 H'' := by
        have z1 := hK.trans (h := K7 :: (f2 ++ f4)) (Keep.refl f2 H1) (fun _ h _ => h) (fun i h _ => by simp [h])
        have z2 := z1.trans (h := K7 :: (f2 ++ f4)) (Keep.app [] H1 [some ⟨113, .wr, [[.i .i64 o.kind, .i .i64 o.port, .i .i64 o.vec.root, .i .i64 o.vec.cost, .i .i64 o.vec.bridge, .i .i64 o.vec.port, .i .i64 o.hops, .b o.on]]⟩]) (fun _ h _ => h) (by simp)
        exact z2.trans (h := K7 :: (f2 ++ f4)) hk'' (fun _ h _ => h) (fun i h hl => by
          rcases hf5 i h with h | h
          · simp [h]
          · omega)
      simp [t2, t6, t7, t8, c7'', d7'', g4]
      refine hn2 (j - 1) _ _ (by omega) ⟨i + 1, a'', fp'', by omega, by simp [t2], by simp [t6], by simp [t7], by simp, by rw [blkAt_set d7'', Nat.add_assoc], ?_, ?_, fun j hj => ?_, kA.trans (h := K7 :: (f2 ++ f4)) (ks _) (fun _ h _ => h) (fun i h _ => by simp at h; simp [h])⟩
      · rw [hst]
        exact ((hsame.app _).keep hk'' (fun i hi hj => (hfx i hj).1 hi)).keep (ks _) (fun i hi hj => by have := m2 i hi; simp at hj; omega)
      · rw [htk, ← List.append_assoc, List.map_append]
        refine Own.keep (f := [K7]) (by simpa [Out.enc] using ho'') (ks _) (fun i hi hj => ?_)
        simp at hj
        rcases hf'' i hi with h | h
        · exact (hfx i h).2 hj
        · rw [List.length_append] at h; omega
      · rcases hf'' j hj with h | h
        · exact hf5 j h
        · rw [List.length_append] at h; exact .inr (by omega)
  · simp at hc
    obtain rfl : i = list.length := by omega
    rw [List.take_length] at ho ho5 hgl
    simp [t2, t8]
    refine he2 _ _ _ ?_
    obtain ⟨al, hal⟩ : ∃ al, al = x.said ++ list := ⟨_, rfl⟩
    have hall : al.length = x.said.length + list.length := by rw [hal]; simp
    rw [← hal] at ho5
    have g5 : IntKind.i64.wrap ((al.length : Int) - 40) = (al.length : Int) - 40 := wrap64 (by omega) (by omega)
    rw [← hall] at c7
    have hKH : Keep [] H H1 := k03.next hK (fun i hi => by
      simp at hi
      rcases hi with rfl | hi | hi
      · omega
      · have := m2 i hi; omega
      · have := m4 i hi; omega)
    have last : ∀ (HP : Heap) (tm : Ab.T) (a6 : Option (Nat × Nat)) (f6 : List Nat), tm 6 = .ptr (H.length + 1) 0 0 → blkAt HP K7 = some ⟨43, .wr, [[.i .i64 x.id, .i .i64 x.ports, .i .i64 x.reg.epoch, .i .i64 x.reg.owner, .i .i64 x.reg.pair, q0, q1, .sl a2 x.gates.length, q3, .sl a6 (lastL al).length]]⟩ → Own HP 113 a6 ((lastL al).map Out.enc) f6 → (∀ i ∈ f6, i ∈ f4 ∨ H3.length ≤ i) → Keep (K7 :: f6) H1 HP → Own HP 4 a2 ((list.foldl gateStep x.gates).map encB) f2 → (∀ i ∈ f0 ++ (f1' ++ f3), i ∉ f6) →
        Q .ret tm (HP.set (H.length + 1) (some ⟨43, .wr, [[.i .i64 x.id, .i .i64 x.ports, .i .i64 x.reg.epoch, .i .i64 x.reg.owner, .i .i64 x.reg.pair, q0, q1, .sl a2 x.gates.length, q3, .sl a6 (lastL al).length]]⟩)) := by
      intro HP tm a6 f6 t6 cK o6 hf6 kP oP hdj6
      have hh : ∀ i ∈ f0 ++ (f1' ++ f3), i ∉ K7 :: (f2 ++ f4) := fun i hi hj => by
        simp at hj
        have hi7 : i ∈ f0 ++ (f1' ++ (f2 ++ (f3 ++ f4))) := by simp at hi ⊢; rcases hi with h | h | h <;> simp [h]
        have := n7 i hi7
        simp at hi
        rcases hj with rfl | hj | hj
        · omega
        · rcases hi with h | h | h
          · exact x02 i h hj
          · exact x12 i h hj
          · exact x23 i h hj
        · rcases hi with h | h | h
          · exact x04 i h hj
          · exact x14 i h hj
          · exact x34 i h hj
      have hh6 : ∀ i ∈ f0 ++ (f1' ++ f3), i ∉ K7 :: f6 := fun i hi hj => by
        rcases List.mem_cons.1 hj with rfl | hj
        · exact hh _ hi (by simp)
        · exact hdj6 i hi hj
      have b2' := (kP.blk (hK.blk b2 (by simp; exact ⟨by omega, fun h => by have := m2 _ h; omega, fun h => by have := m4 _ h; omega⟩)) (by
        simp; exact ⟨by omega, fun h => by
          rcases hf6 _ h with h | h
          · have := m4 _ h; omega
          · omega⟩))
      have d2' := blkAt_len b2'
      have kS := Keep.set (id := H.length + 1) HP (some ⟨43, .wr, [[.i .i64 x.id, .i .i64 x.ports, .i .i64 x.reg.epoch, .i .i64 x.reg.owner, .i .i64 x.reg.pair, q0, q1, .sl a2 x.gates.length, q3, .sl a6 (lastL al).length]]⟩)
      have h6g : ∀ i ∈ f6, H.length + 2 ≤ i := fun i hi => by
        rcases hf6 i hi with h | h
        · exact (m4 i h).1
        · omega
      have ns : ∀ i ∈ f0 ++ (f1' ++ f3), i ∉ [H.length + 1] := fun i hi hj => by
        have hi7 : i ∈ f0 ++ (f1' ++ (f2 ++ (f3 ++ f4))) := by simp at hi ⊢; rcases hi with h | h | h <;> simp [h]
        have := n7 i hi7
        simp at hj; omega
      have x26 : ∀ i ∈ f2, i ∉ f6 := fun i hi hj => by
        rcases hf6 i hj with h | h
        · exact x24 i h hi
        · have := m2 i hi; omega
      have p0 := ((i0.keep okMinder hK (fun i hi => hh i (by simp [hi]))).keep okMinder kP (fun i hi => hh6 i (by simp [hi]))).keep okMinder kS (fun i hi => ns i (by simp [hi]))
      have p1 := ((i1.keep hK (fun i hi => hh i (by simp [hi]))).keep kP (fun i hi => hh6 i (by simp [hi]))).keep kS (fun i hi => ns i (by simp [hi]))
      have p2 := oP.keep kS (fun i hi hj => by have := m2 i hi; simp at hj; omega)
      have p3 := ((i3.keep hK (fun i hi => hh i (by simp [hi]))).keep kP (fun i hi => hh6 i (by simp [hi]))).keep kS (fun i hi => ns i (by simp [hi]))
      have p4 := o6.keep kS (fun i hi hj => by have := h6g i hi; simp at hj; omega)
      refine fin _ _ _ (acceptB x list) (f0 ++ (f1' ++ (f2 ++ (f3 ++ f6)))) t6 (blkAt_set d2') ⟨q0, q1, _, q3, _, f0, f1', f2, f3, f6, rfl, p0, p1, ⟨a2, by simp [acceptB, accGates_len], p2⟩, p3, ⟨a6, by simp [acceptB, hal], by simpa [acceptB, hal] using p4⟩, rfl, ?_⟩ rfl (((hKH.next kP (fun i hi => by
        rcases List.mem_cons.1 hi with rfl | hi
        · omega
        · have := h6g i hi; omega)).next kS (by simp))) (fun i hi => by
        simp at hi
        rcases hi with h | h | h | h | h
        · have := n7 i (by simp [h]); omega
        · have := n7 i (by simp [h]); omega
        · have := m2 i h; omega
        · have := n7 i (by simp [h]); omega
        · have := h6g i h; omega)
      refine nodup_app nd0.1 (nodup_app nd1.1 (nodup_app nd2.1 (nodup_app nd3.1 o6.nodup fun i hi hj => hdj6 i (by simp [hi]) hj) fun i hi hj => ?_) fun i hi hj => ?_) fun i hi hj => ?_
      · rcases List.mem_append.1 hj with hj | hj
        · exact x23 i hj hi
        · exact x26 i hi hj
      · rcases List.mem_append.1 hj with hj | hj
        · exact x12 i hi hj
        · rcases List.mem_append.1 hj with hj | hj
          · exact nd1.2.2 i hi i (by simp [hj]) rfl
          · exact hdj6 i (by simp [hi]) hj
      · rcases List.mem_append.1 hj with hj | hj
        · exact nd0.2.2 i hi i (by simp [hj]) rfl
        · rcases List.mem_append.1 hj with hj | hj
          · exact x02 i hi hj
          · rcases List.mem_append.1 hj with hj | hj
            · exact nd0.2.2 i hi i (by simp [hj]) rfl
            · exact hdj6 i (by simp [hi]) hj
    simp [t7, c7, d7', builtinV, pureB, lenV]
    have h07 : ∀ i ∈ f0 ++ (f1' ++ f3), i < K7 := fun i hi => by
      have hi7 : i ∈ f0 ++ (f1' ++ (f2 ++ (f3 ++ f4))) := by simp at hi ⊢; rcases hi with h | h | h <;> simp [h]
      exact (n7 i hi7).2
    have b2a := hK.blk b2 (by simp; exact ⟨by omega, fun h => by have := m2 _ h; omega, fun h => by have := m4 _ h; omega⟩)
    have d2a := blkAt_len b2a
    by_cases hgt : 40 < al.length
    · have hgt2 : (40 : Int) < (al.length : Int) := by omega
      obtain ⟨id5, bl5, rfl, -, hb5, hbe5, -, -⟩ := ho5.blk (by intro h; have := congrArg List.length h; simp only [List.length_map, List.length_nil] at this; omega)
      have hid5 := blkAt_len hb5
      have h40 : (40 : Int) ≤ al.length := by omega
      have h41 : (al.length : Int) - 40 ≤ al.length := by omega
      have h42 : ((al.length : Int) - 40).toNat = al.length - 40 := by omega
      simp [hgt, hgt2, t7, c7, d7', builtinV, pureB, lenV, g5, sliceV, elemIs, hid5, hb5, hbe5, bnd, h40, h41, h42]
      have hdr := sl_drop ho5.sl (al.length - 40)
      rw [← List.map_drop] at hdr
      have hll : al.drop (al.length - 40) = lastL al := rfl
      rw [hll] at hdr
      have hlen : (lastL al).length = al.length - (al.length - 40) := by unfold lastL; simp
      refine stpL_append (e := 113) (rows := []) (ys := (lastL al).map Out.enc) (Own.of (by simp)) (by simpa using hdr.app _) rfl rfl rfl (by simp) (by simp; omega) rfl (by simp [hlen]) fun a'' H'' fp'' ho'' hk'' hf'' => ?_
      rw [List.nil_append] at ho''
      have kA : Keep [] H1 H'' := (Keep.app [] H1 [some ⟨113, .wr, []⟩]).next hk'' (by simp)
      have c7'' := kA.blk c7 (by simp)
      have d7'' := blkAt_len c7''
      have b2'' := kA.blk b2a (by simp)
      have d2'' := blkAt_len b2''
      have hf6 : ∀ j ∈ fp'', H1.length ≤ j := fun j hj => by
        rcases hf'' j hj with h | h
        · simp at h; omega
        · rw [List.length_append] at h; omega
      have ks := Keep.set (id := K7) H'' (some ⟨43, .wr, [[.i .i64 x.id, .i .i64 x.ports, .i .i64 x.reg.epoch, .i .i64 x.reg.owner, .i .i64 x.reg.pair, q0, q1, .sl a2 x.gates.length, q3, .sl a'' (lastL al).length]]⟩)
      have b2s := ks.blk b2'' (by simp; omega)
      have d2s := blkAt_len b2s
      have cs := blkAt_set (b := ⟨43, .wr, [[.i .i64 x.id, .i .i64 x.ports, .i .i64 x.reg.epoch, .i .i64 x.reg.owner, .i .i64 x.reg.pair, q0, q1, .sl a2 x.gates.length, q3, .sl a'' (lastL al).length]]⟩) d7''
      rw [← hlen]
      simp [t6, t7, c7'', d7'']
      simp [t6, t7, cs, d7'', b2s, d2s, d2'']
      refine last _ _ a'' fp'' (by simp [t6]) cs (ho''.keep ks (fun j hj hj2 => by have := hf6 j hj; simp at hj2; omega)) (fun j hj => .inr (by have := hf6 j hj; omega)) ?_ ((ho.keep kA (by simp)).keep ks (fun i hi hj => by have := m2 i hi; simp at hj; omega)) (fun i hi hj => by have := h07 i hi; have := hf6 i hj; omega)
      exact kA.trans ks (by simp) (fun i hi _ => by simp at hi; simp [hi])
    · have hle : al.length ≤ 40 := by omega
      have h0 : al.length - 40 = 0 := by omega
      have hla : lastL al = al := by unfold lastL; rw [h0]; rfl
      have hgt2 : ¬ (40 : Int) < (al.length : Int) := by omega
      simp [hgt, hgt2, t6, t7, c7, d7', b2a, d2a]
      have hx : al.length = (lastL al).length := by rw [hla]
      rw [hx]
      refine last H1 _ a5 f5 (by simp [t6]) (by rw [← hx]; exact c7) (by rw [hla]; exact ho5) hf5 (Keep.refl _ _) ho (fun i hi hj => ?_)
      · have h1 := h07 i hi
        rcases hf5 i hj with h | h
        · simp at hi
          rcases hi with h2 | h2 | h2
          · exact x04 i h2 h
          · exact x14 i h2 h
          · exact x34 i h2 h
        · omega
end W
end Go.Proofs.Ytjbjpdifgfnaeaa
