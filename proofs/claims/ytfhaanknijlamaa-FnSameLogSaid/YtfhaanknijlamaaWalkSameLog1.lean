/- The functions that this law reaches: what each computes. Conditions: those that each theorem names. -/
import Derived.Test.YtfhaanknijlamaaWalkSameLog
set_option maxRecDepth 100000
set_option maxHeartbeats 4000000
set_option linter.unusedSimpArgs false
set_option linter.unusedVariables false
set_option linter.unnecessarySimpa false
namespace Go.Proofs.Ytfhaanknijlamaa
open Go Go.Ab Go.ChangeShapes Go.WideShapes Go.ChangeAt Go.RowKit
namespace W
def stepBr (b : Bridge) (x : In) : Bridge := (reactB b x).1
def bridgeOf (id ports : Int) (log : List In) : Bridge := log.foldl stepBr (bridgeNew id ports).1
theorem bridgeOf_step (id ports : Int) (log : List In) {i : Nat} (h : i < log.length) : bridgeOf id ports (log.take (i + 1)) = stepBr (bridgeOf id ports (log.take i)) log[i] := by
  unfold bridgeOf
  rw [List.take_add_one, List.getElem?_eq_getElem h, List.foldl_append]
  rfl
theorem bridgeOf_len (id ports : Int) (log : List In) : (bridgeOf id ports log).ports.length ≤ 4 := by
  have key : ∀ (log : List In) (b : Bridge), b.ports.length ≤ 4 → (log.foldl stepBr b).ports.length ≤ 4 := by
    intro log
    induction log with
    | nil => intro b h; exact h
    | cons x xs ih => intro b h; exact ih _ (by rw [stepBr, reactB_len]; exact h)
  refine key log _ ?_
  unfold bridgeNew
  split
  · rename_i h
    simp at h ⊢
    omega
  · simp
theorem bridgeOf_sz0 {id ports : Int} {log : List In} (_ : log.length ≤ 1048576) : (bridgeOf id ports log).sz ≤ 1048576 := by
  have := bridgeOf_len id ports log
  have h2 : (bridgeOf id ports log).sz = (bridgeOf id ports log).ports.length := rfl
  omega
theorem bridgeOf_bad {id ports : Int} (h : (bridgeNew id ports).2 = false) (log : List In) : bridgeOf id ports log = ⟨0, []⟩ := by
  have h0 : (bridgeNew id ports).1 = ⟨0, []⟩ := by
    unfold bridgeNew at h ⊢
    split at h
    · simp at h
    · rename_i h1; rw [if_neg h1]
  have key : ∀ log : List In, log.foldl stepBr ⟨0, []⟩ = ⟨0, []⟩ := by
    intro log
    induction log with
    | nil => rfl
    | cons x xs ih =>
      have : stepBr ⟨0, []⟩ x = ⟨0, []⟩ := by
        rw [stepBr, reactB_no (by intro h; have := h.1; simp [Bridge.ok] at this)]
      rw [List.foldl_cons, this, ih]
  unfold bridgeOf
  rw [h0, key]

theorem sl_take {H : Heap} {e : Nat} {a : Option (Nat × Nat)} {rows : List (List Lf)} (h : Sl H e a rows) (n : Nat) : Sl H e a (rows.take n) := fun i row hr => by
  rw [List.getElem?_take] at hr
  split at hr
  · exact h i row hr
  · cases hr
theorem sl_nil {H : Heap} {e : Nat} {rows : List (List Lf)} (h : Sl H e none rows) : rows = [] := by
  cases rows with
  | nil => rfl
  | cons x xs => obtain ⟨_, _, _, h0, _⟩ := h 0 _ rfl; cases h0
theorem sl_drop {H : Heap} {e id r : Nat} {rows : List (List Lf)} (h : Sl H e (some (id, r)) rows) (n : Nat) : Sl H e (some (id, r + n)) (rows.drop n) := fun i row hr => by
  rw [List.getElem?_drop] at hr
  obtain ⟨id', r', b, hx, hb, he, hrow⟩ := h _ row hr
  cases hx
  exact ⟨id, r + n, b, rfl, hb, he, by rw [Nat.add_assoc]; exact hrow⟩

theorem implBridgeOf_is {H : Heap} {q : Lf} {log : List In} (h : RdInS H q log) (hn : log.length ≤ 1048576) (id : Int) (_ : I64 id) (ports : Int) (_ : I64 ports) :
    Runs env 17 [.int id, .int ports, .w (.lf q)] H fun v H' => ∃ l' fp, v = .agg l' ∧ IsBridge H' l' (bridgeOf id ports log) fp ∧ Fresh H H' fp := by
  obtain ⟨a, rfl, hs⟩ := h
  refine Runs.walk ok17 Try.func17 rfl (by simp [Try.f17]) fun Q hQ => ?_
  simp only [Try.f17, strip, stripL, stripI, stripG, chkT, tagsB, tagsL, tagD, addT, tagA, lookN, tagOp, elmT, ty22, ty24, ty33, ty40, ty44, ty54, ty55, ty63, ty171, ty175, ty176, ty183, Nat.reduceEqDiff, if_false, reduceIte, Option.getD_some, Option.getD_none, dstAt, dstOk, Nat.reduceLT, decide_true, if_true]
  simp
  refine stpL_runs (implBridgeNew _ _ _) ?_
  rintro _ _ ⟨_, f1, rfl, ⟨a1, rfl, o1⟩, ⟨⟨G1, rfl⟩, hf1⟩⟩
  simp [Bridge.enc]
  obtain ⟨B0, hB0⟩ : ∃ B0, B0 = (bridgeNew id ports).1 := ⟨_, rfl⟩
  rw [← hB0] at o1 ⊢
  obtain ⟨H3, hH3⟩ : ∃ H3 : Heap, H3 = H ++ some ⟨26, .wr, [[.i .i64 0, .sl none 0]]⟩ :: (G1 ++ [some ⟨26, .wr, [[.i .i64 B0.id, .sl a1 B0.ports.length]]⟩]) := ⟨_, rfl⟩
  have bz : blkAt H3 H.length = some ⟨26, .wr, [[.i .i64 0, .sl none 0]]⟩ := by rw [hH3]; simp
  have b7 : blkAt H3 (H.length + (G1.length + 1)) = some ⟨26, .wr, [[.i .i64 B0.id, .sl a1 B0.ports.length]]⟩ := by rw [hH3]; simp
  have o3 : Own H3 43 a1 (B0.ports.map Port.enc) f1 := by
    rw [hH3]
    have := o1.app [some ⟨26, .wr, [[.i .i64 B0.id, .sl a1 B0.ports.length]]⟩]
    simpa using this
  have k03 : Keep [] H H3 := by rw [hH3]; exact Keep.app _ _ _
  have hlt1 := o1.lt
  have n0 : ∀ i ∈ f1, H.length < i ∧ i < H.length + (G1.length + 1) := fun i hi => by have h1 := hf1 _ hi; have h2 := hlt1 _ hi; simp only [List.length_append, List.length_cons, List.length_nil] at h1 h2; omega
  have dz := blkAt_len bz
  rw [← hH3]
  clear hH3 o1 hf1 hlt1
  have fin : ∀ (Hf : Heap) (tm : Ab.T) (c : Bridge) (a7 : Option (Nat × Nat)) (f7 : List Nat), tm 6 = .ptr H.length 0 0 → blkAt Hf H.length = some ⟨26, .wr, [[.i .i64 c.id, .sl a7 c.ports.length]]⟩ → Own Hf 43 a7 (c.ports.map Port.enc) f7 → c = bridgeOf id ports log → Keep [] H Hf → (∀ i ∈ f7, H.length ≤ i) → Q .ret tm Hf := by
    intro Hf tm c a7 f7 t6 hb4 ho4 hc hK hf7
    refine hQ _ _ _ (by simp) ?_
    have hres : resT env.τ tm Hf (Try.f17.results.toList) = some [W.agg [.i .i64 c.id, .sl a7 c.ports.length]] := by simp [Try.f17, t6, hb4]
    rw [hres, optK_some, ← hc]
    have hI : IsBridge Hf [.i .i64 c.id, .sl a7 c.ports.length] c f7 := ⟨a7, rfl, ho4⟩
    obtain ⟨fp, h1, h2⟩ := hI.leave (H := H) (ws := [W.agg [.i .i64 c.id, .sl a7 c.ports.length]]) ⟨hK.ext, hf7⟩ (by simp)
    exact ⟨_, fp, rfl, h1, h2⟩
  cases hok : (bridgeNew id ports).2
  · simp [bz, dz]
    refine fin _ _ ⟨0, []⟩ none [] (by simp) (by rw [blkAt_set dz]; rfl) (Own.nil _ _) (bridgeOf_bad hok log).symm (k03.next (Keep.set _ _) (by simp)) (by simp)
  simp [builtinV, pureB, lenV]
  refine wpS_loop (fun j tm H' => ∃ i a7 f7, i + j = log.length ∧ tm 6 = .ptr H.length 0 0 ∧ tm 7 = .ptr (H.length + (G1.length + 1)) 0 0 ∧ tm 20 = .w (.lf (.sl a log.length)) ∧ tm 21 = .int log.length ∧ tm 22 = .int i ∧ blkAt H' H.length = some ⟨26, .wr, [[.i .i64 0, .sl none 0]]⟩ ∧ blkAt H' (H.length + (G1.length + 1)) = some ⟨26, .wr, [[.i .i64 (bridgeOf id ports (log.take i)).id, .sl a7 (bridgeOf id ports (log.take i)).ports.length]]⟩ ∧ Own H' 43 a7 ((bridgeOf id ports (log.take i)).ports.map Port.enc) f7 ∧ (∀ j ∈ f7, H.length < j ∧ j ≠ H.length + (G1.length + 1)) ∧ Keep [] H H') log.length (by rw [env_K]; omega)
    ⟨0, a1, f1, by simp, by simp, by simp, by simp, by simp, by simp, bz, by rw [b7, hB0]; rfl, by rw [hB0] at o3; exact o3, fun j hj => by have := n0 j hj; omega, k03⟩ ?_
  rintro j tm H1 hj ⟨i, a7, f7, hij, t6, t7, t20, t21, t22, cz, c7, o7, hf7, hK⟩ Q2 hn2 he2 hr2
  have ez := blkAt_len cz
  have e7 := blkAt_len c7
  simp [t21, t22]
  refine selS_intro (fun hc => ?_) (fun hc => ?_)
  · simp at hc
    obtain ⟨id2, r, bl, rfl, hbl, hbe, hrow⟩ := (hs.keep hK (by simp)) i _ (by simp [hc]; rfl)
    have hid := blkAt_len hbl
    have g4 : IntKind.i64.wrap ((i : Int) + 1) = (i : Int) + 1 := wrap64 (by omega) (by omega)
    have hst := bridgeOf_step id ports log hc
    have hbl4 := bridgeOf_len id ports (log.take i)
    obtain ⟨b, hb⟩ : ∃ b, b = bridgeOf id ports (log.take i) := ⟨_, rfl⟩
    rw [← hb] at c7 o7 hst hbl4
    have hR : RdBridge H1 [.i .i64 b.id, .sl a7 b.ports.length] b := ⟨a7, rfl, o7.sl⟩
    obtain ⟨x, hx⟩ : ∃ x, x = log[i] := ⟨_, rfl⟩
    rw [← hx] at hst hrow
    simp only [In.enc] at hrow
    simp [t6, t7, t20, t21, t22, c7, e7, indexAddrV, elemIs, hid, hbl, hbe, hc, hrow]
    refine stpL_runs (implReact (hR.app _) (by have : b.sz = b.ports.length := rfl; omega) x) ?_
    rintro _ H2 ⟨_, f8, _, f9, rfl, ⟨a8, rfl, o8⟩, o9, hfr, hdj⟩
    have k12 : Keep [] H1 H2 := hfr.base.keep
    have c72 := k12.blk c7 (by simp)
    have cz2 := k12.blk cz (by simp)
    have e72 := blkAt_len c72
    have h0 := hK.1
    have h89 := hfr.2
    simp [Bridge.enc, t6, t7, t20, t21, t22, c72, e72, g4]
    have hf8 : ∀ j ∈ f8, H1.length < j + 1 := fun j hj => by have := h89 j (by simp [hj]); rw [List.length_append] at this; omega
    refine hn2 (j - 1) _ _ (by omega) ⟨i + 1, a8, f8, by omega, by simp [t6], by simp [t7], by simp [t20], by simp [t21], by simp, ?_, ?_, ?_, fun j hj => by have := hf8 j hj; omega, ?_⟩
    · rw [blkAt_set_ne (by omega)]; exact cz2
    · rw [blkAt_set e72, hst]; rfl
    · rw [hst]
      exact o8.keep (Keep.set _ _) (fun j hj => by have := hf8 j hj; simp; omega)
    · exact (hK.next k12 (by simp)).next (Keep.set _ _) (by simp)
  · simp at hc
    obtain rfl : i = log.length := by omega
    rw [List.take_length] at c7 o7
    simp [t21, t22]
    refine he2 _ _ _ ?_
    simp [t6, t7, c7, e7, cz, ez]
    refine fin _ _ (bridgeOf id ports log) a7 f7 (by simp [t6]) (blkAt_set ez) (o7.keep (Keep.set _ _) (fun j hj => by have := hf7 j hj; simp; omega)) rfl (hK.next (Keep.set _ _) (by simp)) (fun j hj => by have := hf7 j hj; omega)

theorem specBridgeOf_is {H : Heap} {q : Lf} {log : List In} (h : RdInS H q log) (hn : log.length ≤ 1048576) (id : Int) (_ : I64 id) (ports : Int) (_ : I64 ports) :
    Runs env 18 [.int id, .int ports, .w (.lf q)] H fun v H' => ∃ l' fp, v = .agg l' ∧ IsBridge H' l' (bridgeOf id ports log) fp ∧ Fresh H H' fp := by
  obtain ⟨a, rfl, hs⟩ := h
  refine Runs.walk ok18 Try.func18 rfl (by simp [Try.f18]) fun Q hQ => ?_
  simp only [Try.f18, strip, stripL, stripI, stripG, chkT, tagsB, tagsL, tagD, addT, tagA, lookN, tagOp, elmT, ty22, ty24, ty33, ty40, ty44, ty54, ty55, ty63, ty171, ty175, ty176, ty183, Nat.reduceEqDiff, if_false, reduceIte, Option.getD_some, Option.getD_none, dstAt, dstOk, Nat.reduceLT, decide_true, if_true]
  simp
  refine stpL_runs (specBridgeNew _ _ _) ?_
  rintro _ _ ⟨_, f1, rfl, ⟨a1, rfl, o1⟩, ⟨⟨G1, rfl⟩, hf1⟩⟩
  simp [Bridge.enc]
  obtain ⟨B0, hB0⟩ : ∃ B0, B0 = (bridgeNew id ports).1 := ⟨_, rfl⟩
  rw [← hB0] at o1 ⊢
  obtain ⟨H3, hH3⟩ : ∃ H3 : Heap, H3 = H ++ some ⟨26, .wr, [[.i .i64 0, .sl none 0]]⟩ :: (G1 ++ [some ⟨26, .wr, [[.i .i64 B0.id, .sl a1 B0.ports.length]]⟩]) := ⟨_, rfl⟩
  have bz : blkAt H3 H.length = some ⟨26, .wr, [[.i .i64 0, .sl none 0]]⟩ := by rw [hH3]; simp
  have b7 : blkAt H3 (H.length + (G1.length + 1)) = some ⟨26, .wr, [[.i .i64 B0.id, .sl a1 B0.ports.length]]⟩ := by rw [hH3]; simp
  have o3 : Own H3 43 a1 (B0.ports.map Port.enc) f1 := by
    rw [hH3]
    have := o1.app [some ⟨26, .wr, [[.i .i64 B0.id, .sl a1 B0.ports.length]]⟩]
    simpa using this
  have k03 : Keep [] H H3 := by rw [hH3]; exact Keep.app _ _ _
  have hlt1 := o1.lt
  have n0 : ∀ i ∈ f1, H.length < i ∧ i < H.length + (G1.length + 1) := fun i hi => by have h1 := hf1 _ hi; have h2 := hlt1 _ hi; simp only [List.length_append, List.length_cons, List.length_nil] at h1 h2; omega
  have dz := blkAt_len bz
  rw [← hH3]
  clear hH3 o1 hf1 hlt1
  have fin : ∀ (Hf : Heap) (tm : Ab.T) (c : Bridge) (a7 : Option (Nat × Nat)) (f7 : List Nat), tm 6 = .ptr H.length 0 0 → blkAt Hf H.length = some ⟨26, .wr, [[.i .i64 c.id, .sl a7 c.ports.length]]⟩ → Own Hf 43 a7 (c.ports.map Port.enc) f7 → c = bridgeOf id ports log → Keep [] H Hf → (∀ i ∈ f7, H.length ≤ i) → Q .ret tm Hf := by
    intro Hf tm c a7 f7 t6 hb4 ho4 hc hK hf7
    refine hQ _ _ _ (by simp) ?_
    have hres : resT env.τ tm Hf (Try.f18.results.toList) = some [W.agg [.i .i64 c.id, .sl a7 c.ports.length]] := by simp [Try.f18, t6, hb4]
    rw [hres, optK_some, ← hc]
    have hI : IsBridge Hf [.i .i64 c.id, .sl a7 c.ports.length] c f7 := ⟨a7, rfl, ho4⟩
    obtain ⟨fp, h1, h2⟩ := hI.leave (H := H) (ws := [W.agg [.i .i64 c.id, .sl a7 c.ports.length]]) ⟨hK.ext, hf7⟩ (by simp)
    exact ⟨_, fp, rfl, h1, h2⟩
  refine wpS_loop (fun j tm H' => ∃ i a7 f7, i + j = log.length ∧ tm 6 = .ptr H.length 0 0 ∧ tm 7 = .ptr (H.length + (G1.length + 1)) 0 0 ∧ tm 2 = .w (.lf (.sl a log.length)) ∧ tm 9 = .int i ∧ blkAt H' H.length = some ⟨26, .wr, [[.i .i64 0, .sl none 0]]⟩ ∧ blkAt H' (H.length + (G1.length + 1)) = some ⟨26, .wr, [[.i .i64 (bridgeOf id ports (log.take i)).id, .sl a7 (bridgeOf id ports (log.take i)).ports.length]]⟩ ∧ Own H' 43 a7 ((bridgeOf id ports (log.take i)).ports.map Port.enc) f7 ∧ (∀ j ∈ f7, H.length < j ∧ j ≠ H.length + (G1.length + 1)) ∧ Keep [] H H') log.length (by rw [env_K]; omega)
    ⟨0, a1, f1, by simp, by simp, by simp, by simp, by simp, bz, by rw [b7, hB0]; rfl, by rw [hB0] at o3; exact o3, fun j hj => by have := n0 j hj; omega, k03⟩ ?_
  rintro j tm H1 hj ⟨i, a7, f7, hij, t6, t7, t2, t9, cz, c7, o7, hf7, hK⟩ Q2 hn2 he2 hr2
  have ez := blkAt_len cz
  have e7 := blkAt_len c7
  simp [t2, t9, builtinV, pureB, lenV]
  refine selS_intro (fun hc => ?_) (fun hc => ?_)
  · simp at hc
    obtain ⟨id2, r, bl, rfl, hbl, hbe, hrow⟩ := (hs.keep hK (by simp)) i _ (by simp [hc]; rfl)
    have hid := blkAt_len hbl
    have g4 : IntKind.i64.wrap ((i : Int) + 1) = (i : Int) + 1 := wrap64 (by omega) (by omega)
    have hst := bridgeOf_step id ports log hc
    have hbl4 := bridgeOf_len id ports (log.take i)
    obtain ⟨b, hb⟩ : ∃ b, b = bridgeOf id ports (log.take i) := ⟨_, rfl⟩
    rw [← hb] at c7 o7 hst hbl4
    have hR : RdBridge H1 [.i .i64 b.id, .sl a7 b.ports.length] b := ⟨a7, rfl, o7.sl⟩
    obtain ⟨x, hx⟩ : ∃ x, x = log[i] := ⟨_, rfl⟩
    rw [← hx] at hst hrow
    simp only [In.enc] at hrow
    simp [t2, t6, t7, t9, c7, e7, indexAddrV, elemIs, hid, hbl, hbe, hc, hrow]
    refine stpL_runs_f (specReact hR (by have : b.sz = b.ports.length := rfl; omega) x) (by rintro _ _ ⟨_, _, _, _, _, _, _, hf, _⟩; exact hf.1) ?_
    rintro _ H2 ⟨_, f8, _, f9, rfl, ⟨a8, rfl, o8⟩, o9, hfr, hdj⟩
    have k12 : Keep [] H1 H2 := hfr.keep
    have c72 := k12.blk c7 (by simp)
    have cz2 := k12.blk cz (by simp)
    have e72 := blkAt_len c72
    have h0 := hK.1
    have h89 := hfr.2
    simp [Bridge.enc, t2, t6, t7, t9, c72, e72, g4]
    have hf8 : ∀ j ∈ f8, H1.length < j + 1 := fun j hj => by have := h89 j (by simp [hj]); omega
    refine hn2 (j - 1) _ _ (by omega) ⟨i + 1, a8, f8, by omega, by simp [t6], by simp [t7], by simp [t2], by simp, ?_, ?_, ?_, fun j hj => by have := hf8 j hj; omega, ?_⟩
    · rw [blkAt_set_ne (by omega)]; exact cz2
    · rw [blkAt_set e72, hst]; rfl
    · rw [hst]
      exact o8.keep (Keep.set _ _) (fun j hj => by have := hf8 j hj; simp; omega)
    · exact (hK.next k12 (by simp)).next (Keep.set _ _) (by simp)
  · simp at hc
    obtain rfl : i = log.length := by omega
    rw [List.take_length] at c7 o7
    simp [t2, t9]
    refine he2 _ _ _ ?_
    simp [t6, t7, c7, e7, cz, ez]
    refine fin _ _ (bridgeOf id ports log) a7 f7 (by simp [t6]) (blkAt_set ez) (o7.keep (Keep.set _ _) (fun j hj => by have := hf7 j hj; simp; omega)) rfl (hK.next (Keep.set _ _) (by simp)) (fun j hj => by have := hf7 j hj; omega)

def saying (id ports : Int) (log : List In) (n : Int) : List Out := if (decide (0 ≤ n) && decide (n ≤ (log.length : Int) - 1)) = true then (reactB (bridgeOf id ports (log.take n.toNat)) (log.getD n.toNat default)).2 else []
theorem saying_len (id ports : Int) (log : List In) (n : Int) : (saying id ports log n).length ≤ 8 := by
  unfold saying
  split
  · have h1 := reactB_outs (bridgeOf id ports (log.take n.toNat)) (log.getD n.toNat default)
    have h2 := bridgeOf_len id ports (log.take n.toNat)
    omega
  · simp
theorem saying_sz0 {id ports : Int} {log : List In} {n : Int} (_ : log.length ≤ 1048576) : (saying id ports log n).length ≤ 1048576 := by
  have := saying_len id ports log n; omega

theorem implSaying_is {H : Heap} {q : Lf} {log : List In} (h : RdInS H q log) (hn : log.length ≤ 1048576) (id : Int) (hid_ : I64 id) (ports : Int) (hpo_ : I64 ports) (n : Int) (_ : I64 n) :
    Runs env 20 [.int id, .int ports, .w (.lf q), .int n] H fun v H' => ∃ q' fp, v = .w (.lf q') ∧ IsOutS H' q' (saying id ports log n) fp ∧ Fresh H H' fp := by
  obtain ⟨a, rfl, hs⟩ := h
  have g : IntKind.i64.wrap ((log.length : Int) - 1) = (log.length : Int) - 1 := wrap64 (by omega) (by omega)
  refine Runs.walk ok20 Try.func20 rfl (by simp [Try.f20]) fun Q hQ => ?_
  simp only [Try.f20, strip, stripL, stripI, stripG, chkT, tagsB, tagsL, tagD, addT, tagA, lookN, tagOp, elmT, ty22, ty24, ty33, ty40, ty44, ty54, ty55, ty63, ty171, ty175, ty176, ty183, Nat.reduceEqDiff, if_false, reduceIte, Option.getD_some, Option.getD_none, dstAt, dstOk, Nat.reduceLT, decide_true, if_true]
  simp [builtinV, pureB, lenV, g]
  by_cases hc : 0 ≤ n ∧ n ≤ (log.length : Int) - 1
  · obtain ⟨k, rfl⟩ : ∃ k : Nat, n = k := ⟨n.toNat, by omega⟩
    have hk : k < log.length := by omega
    obtain ⟨id2, r, bl, rfl, hbl, hbe, hrow⟩ := hs k _ (by simp [hk]; rfl)
    have hid := blkAt_len hbl
    have hsy : saying id ports log k = (reactB (bridgeOf id ports (log.take k)) log[k]).2 := by
      unfold saying
      rw [if_pos (by simp; omega)]
      simp [List.getD, List.getElem?_eq_getElem hk]
    obtain ⟨x, hx⟩ : ∃ x, x = log[k] := ⟨_, rfl⟩
    rw [← hx] at hsy hrow
    simp only [In.enc] at hrow
    rw [hsy] at hQ
    have hkl : (k : Int) ≤ (log.length : Int) - 1 := by omega
    have hkl2 : k ≤ log.length := by omega
    simp [inRange, hkl, sliceV, elemIs, hid, hbl, hbe, bnd, hkl2]
    have hR : RdInS H (.sl (some (id2, r)) k) (log.take k) := ⟨some (id2, r), by simp; omega, by rw [List.map_take]; exact sl_take hs k⟩
    refine stpL_runs_f (implBridgeOf_is hR (by simp; omega) id hid_ ports hpo_) (by rintro _ _ ⟨_, _, _, _, hf⟩; exact hf.1) ?_
    rintro _ _ ⟨_, f1, rfl, ⟨a1, rfl, o1⟩, ⟨⟨G1, rfl⟩, hf1⟩⟩
    have hbl4 := bridgeOf_len id ports (log.take k)
    obtain ⟨b, hb⟩ : ∃ b, b = bridgeOf id ports (log.take k) := ⟨_, rfl⟩
    rw [← hb] at o1 hbl4 hQ ⊢
    have hRb : RdBridge (H ++ G1) (b.enc a1) b := ⟨a1, rfl, o1.sl⟩
    simp [indexAddrV, elemIs, hid, hbl, hbe, hk, hrow]
    refine stpL_runs_f (implReact hRb (by have : b.sz = b.ports.length := rfl; omega) x) (by rintro _ _ ⟨_, _, _, _, _, _, _, hf, _⟩; exact hf.1) ?_
    rintro _ _ ⟨_, f8, q9, f9, rfl, ⟨a8, rfl, o8⟩, o9, ⟨⟨G2, rfl⟩, hf2⟩, hdj⟩
    simp [Bridge.enc]
    refine hQ _ _ _ (by simp) ?_
    simp [Try.f20]
    have o9' := o9.app [some ⟨26, .wr, [[.i .i64 (reactB b x).1.id, .sl a8 (reactB b x).1.ports.length]]⟩]
    simp only [List.append_assoc] at o9'
    obtain ⟨fp, h1, h2⟩ := o9'.leave (H := H) (ws := [W.lf q9]) (Fresh.app H _ fun i hi => by have := hf2 i (by simp [hi]); rw [List.length_append] at this; omega) (by simp)
    exact ⟨fp, h1, h2⟩
  · have hcf : (decide (0 ≤ n) && decide (n ≤ (log.length : Int) - 1)) = false := by
      rw [Bool.and_eq_false_iff]; simp; omega
    have hsy : saying id ports log n = [] := by unfold saying; rw [hcf]; rfl
    simp [inRange, hcf]
    refine hQ _ _ _ (by simp) ?_
    simp [Try.f20, hsy]
    exact ⟨[], ⟨none, rfl, Own.nil _ _⟩, Fresh.refl _⟩

theorem specSaying_is {H : Heap} {q : Lf} {log : List In} (h : RdInS H q log) (hn : log.length ≤ 1048576) (id : Int) (hid_ : I64 id) (ports : Int) (hpo_ : I64 ports) (n : Int) (_ : I64 n) :
    Runs env 22 [.int id, .int ports, .w (.lf q), .int n] H fun v H' => ∃ q' fp, v = .w (.lf q') ∧ IsOutS H' q' (saying id ports log n) fp ∧ Fresh H H' fp := by
  obtain ⟨a, rfl, hs⟩ := h
  have g : IntKind.i64.wrap ((log.length : Int) - 1) = (log.length : Int) - 1 := wrap64 (by omega) (by omega)
  refine Runs.walk ok22 Try.func22 rfl (by simp [Try.f22]) fun Q hQ => ?_
  simp only [Try.f22, strip, stripL, stripI, stripG, chkT, tagsB, tagsL, tagD, addT, tagA, lookN, tagOp, elmT, ty22, ty24, ty33, ty40, ty44, ty54, ty55, ty63, ty171, ty175, ty176, ty183, Nat.reduceEqDiff, if_false, reduceIte, Option.getD_some, Option.getD_none, dstAt, dstOk, Nat.reduceLT, decide_true, if_true]
  simp [builtinV, pureB, lenV, g]
  by_cases hc : 0 ≤ n ∧ n ≤ (log.length : Int) - 1
  · obtain ⟨k, rfl⟩ : ∃ k : Nat, n = k := ⟨n.toNat, by omega⟩
    have hk : k < log.length := by omega
    obtain ⟨id2, r, bl, rfl, hbl, hbe, hrow⟩ := hs k _ (by simp [hk]; rfl)
    have hid := blkAt_len hbl
    have hsy : saying id ports log k = (reactB (bridgeOf id ports (log.take k)) log[k]).2 := by
      unfold saying
      rw [if_pos (by simp; omega)]
      simp [List.getD, List.getElem?_eq_getElem hk]
    obtain ⟨x, hx⟩ : ∃ x, x = log[k] := ⟨_, rfl⟩
    rw [← hx] at hsy hrow
    simp only [In.enc] at hrow
    rw [hsy] at hQ
    have hkl : (k : Int) ≤ (log.length : Int) - 1 := by omega
    have hkl2 : k ≤ log.length := by omega
    simp [l1In, hkl, sliceV, elemIs, hid, hbl, hbe, bnd, hkl2]
    have hR : RdInS H (.sl (some (id2, r)) k) (log.take k) := ⟨some (id2, r), by simp; omega, by rw [List.map_take]; exact sl_take hs k⟩
    refine stpL_runs_f (specBridgeOf_is hR (by simp; omega) id hid_ ports hpo_) (by rintro _ _ ⟨_, _, _, _, hf⟩; exact hf.1) ?_
    rintro _ _ ⟨_, f1, rfl, ⟨a1, rfl, o1⟩, ⟨⟨G1, rfl⟩, hf1⟩⟩
    have hbl4 := bridgeOf_len id ports (log.take k)
    obtain ⟨b, hb⟩ : ∃ b, b = bridgeOf id ports (log.take k) := ⟨_, rfl⟩
    rw [← hb] at o1 hbl4 hQ ⊢
    have hRb : RdBridge (H ++ G1) (b.enc a1) b := ⟨a1, rfl, o1.sl⟩
    simp [indexAddrV, elemIs, hid, hbl, hbe, hk, hrow]
    refine stpL_runs_f (specReact hRb (by have : b.sz = b.ports.length := rfl; omega) x) (by rintro _ _ ⟨_, _, _, _, _, _, _, hf, _⟩; exact hf.1) ?_
    rintro _ _ ⟨_, f8, q9, f9, rfl, ⟨a8, rfl, o8⟩, o9, ⟨⟨G2, rfl⟩, hf2⟩, hdj⟩
    simp [Bridge.enc]
    refine hQ _ _ _ (by simp) ?_
    simp [Try.f22]
    have o9' := o9.app [some ⟨26, .wr, [[.i .i64 (reactB b x).1.id, .sl a8 (reactB b x).1.ports.length]]⟩]
    simp only [List.append_assoc] at o9'
    obtain ⟨fp, h1, h2⟩ := o9'.leave (H := H) (ws := [W.lf q9]) (Fresh.app H _ fun i hi => by have := hf2 i (by simp [hi]); rw [List.length_append] at this; omega) (by simp)
    exact ⟨fp, h1, h2⟩
  · have hcf : (decide (0 ≤ n) && decide (n ≤ (log.length : Int) - 1)) = false := by
      rw [Bool.and_eq_false_iff]; simp; omega
    have hsy : saying id ports log n = [] := by unfold saying; rw [hcf]; rfl
    simp [l1In, hcf]
    refine hQ _ _ _ (by simp) ?_
    simp [Try.f22, hsy]
    have hI : IsOutS (H ++ [some ⟨38, .wr, []⟩]) (.sl (some (H.length, 0)) 0) [] [H.length] := ⟨_, rfl, Own.of (by simp)⟩
    obtain ⟨fp, h1, h2⟩ := hI.leave (H := H) (ws := [W.lf (.sl (some (H.length, 0)) 0)]) (Fresh.app H _ (by simp)) (by simp)
    exact ⟨fp, h1, h2⟩

def newM0 : Minder := ⟨true, 1, 1, [], 0, 0, 0⟩
def newM1 : Minder := ⟨true, 2, 0, [], 0, 0, 0⟩
def boxNew (id ports : Int) : Box × Bool := if (bridgeNew id ports).2 = true then (⟨id, ports, ⟨1, 0, 0⟩, [newM0, newM1], [], List.replicate ports.toNat false, [], []⟩, true) else (⟨0, 0, ⟨0, 0, 0⟩, [], [], [], [], []⟩, false)
theorem bridgeNew_yes {id ports : Int} (h : (bridgeNew id ports).2 = true) : (1 ≤ id ∧ id ≤ 9) ∧ (1 ≤ ports ∧ ports ≤ 4) ∧ (bridgeNew id ports).1 = ⟨id, List.replicate ports.toNat Port.zv⟩ := by
  unfold bridgeNew at h ⊢
  split at h
  · rename_i h1
    rw [if_pos h1]
    simp at h1
    exact ⟨h1.1, h1.2, rfl⟩
  · simp at h
theorem boxNew_sz0 {id ports : Int} : (boxNew id ports).1.sz ≤ 1048576 := by
  unfold boxNew
  split
  · rename_i h
    have := (bridgeNew_yes h).2.1
    simp [Box.sz, MinderS.sz, Minder.sz, newM0, newM1]
    omega
  · simp [Box.sz, MinderS.sz]
theorem boxNew_ok {id ports : Int} (h : (bridgeNew id ports).2 = true) : (⟨id, ports, ⟨1, 0, 0⟩, [newM0, newM1], [], List.replicate ports.toNat false, [], []⟩ : Box).ok = true := by
  have hp := (bridgeNew_yes h).2.1
  have e0 : newM0.ok = true := by decide
  have e1 : newM1.ok = true := by decide
  have e2 : Reg.ok ⟨1, 0, 0⟩ = true := by decide
  simp [Box.ok, h, e0, e1, e2, logOk]
  omega
theorem newTwo {H : Heap} {id : Nat} (hb : blkAt H id = some ⟨80, .wr, [newM0.enc none, newM1.enc none]⟩) : IsMinderS H (.sl (some (id, 0)) 2) [newM0, newM1] [id] := by
  refine ⟨some (id, 0), [newM0.enc none, newM1.enc none], [id], [[], []], rfl, Own.of hb, ⟨rfl, rfl, fun i row x f h1 h2 h3 => ?_, by simp⟩, by simp, by simp⟩
  match i with
  | 0 => simp at h1 h2 h3; subst h1; subst h2; subst h3; exact ⟨none, rfl, Own.nil _ _⟩
  | 1 => simp at h1 h2 h3; subst h1; subst h2; subst h3; exact ⟨none, rfl, Own.nil _ _⟩
  | i + 2 => simp at h1

theorem bigL {H : Heap} {a : Option (Nat × Nat)} {n : Nat} : run env 9 [.w (.lf (.sl a n))] H = some (.bool (decide ((1048576 : Int) < n)), H) := by
  refine run_walk ok9 Try.func9 rfl (by simp [Try.f9]) fun Q hQ => ?_
  simp only [Try.f9, strip, stripL, stripI, stripG, chkT, tagsB, tagsL, tagD, addT, tagA, lookN, tagOp, elmT, ty22, ty24, ty33, ty40, ty44, ty54, ty55, ty63, ty171, ty175, ty176, ty183, Nat.reduceEqDiff, if_false, reduceIte, Option.getD_some, Option.getD_none, dstAt, dstOk, Nat.reduceLT, decide_true, if_true]
  simp [builtinV, pureB, lenV]
  refine hQ _ _ _ (by simp) ?_
  simp [Try.f9]

def encU (x : Int) : List Lf := [.i .u8 x]
/-- A cursor over n bytes. -/
def Cur (H : Heap) (c n : Nat) : Prop := ∃ (a : Option (Nat × Nat)) (i h : Int) (bs : List Int), blkAt H c = some ⟨154, .wr, [[.sl a n, .i .i64 i, .i .i64 h]]⟩ ∧ 0 ≤ i ∧ i ≤ n ∧ bs.length = n ∧ n ≤ 1048576 ∧ (∀ id r, a = some (id, r) → bs ≠ [] → id < c) ∧ Sl H 5 a (bs.map encU)
theorem Cur.lt {H : Heap} {c n : Nat} (h : Cur H c n) : c < H.length := let ⟨_, _, _, _, h1, _⟩ := h; blkAt_len h1
theorem Cur.keep {H H' : Heap} {c n : Nat} {f : List Nat} (h : Cur H c n) (hk : Keep f H H') (hf : ∀ i ∈ f, c < i) : Cur H' c n := by
  obtain ⟨a, i, h, bs, h1, h2, h3, h4, h5, h6, h7⟩ := h
  have hlt := blkAt_len h1
  refine ⟨a, i, h, bs, hk.blk h1 (fun hc => by have := hf c hc; omega), h2, h3, h4, h5, h6, ?_⟩
  by_cases hb : bs = []
  · subst hb; exact Sl.nil _ _ _
  · exact h7.keep hk (fun id r he hi => by have := hf id hi; have := h6 id r he hb; omega)
theorem Cur.app {H : Heap} {c n : Nat} (h : Cur H c n) (G : Heap) : Cur (H ++ G) c n := h.keep (Keep.app [] H G) (by simp)
theorem Cur.ne {H : Heap} {c n id : Nat} {b : Blk} (h : Cur H c n) (hb : blkAt H id = some b) (he : b.elem ≠ 154) : id ≠ c := by
  obtain ⟨a, i, h, bs, h1, -⟩ := h
  rintro rfl
  rw [h1] at hb
  injection hb with hb
  rw [← hb] at he
  exact he rfl
/-- From H to H' the cursor may have gone on, nothing else that was has turned. -/
def CurTo (H H' : Heap) (c n : Nat) : Prop := Keep [c] H H' ∧ Cur H' c n
theorem CurTo.refl {H : Heap} {c n : Nat} (h : Cur H c n) : CurTo H H c n := ⟨Keep.refl _ _, h⟩
theorem CurTo.app {H H' : Heap} {c n : Nat} (h : CurTo H H' c n) (G : Heap) : CurTo H (H' ++ G) c n := ⟨h.1.trans (Keep.app [] _ G) (fun _ h _ => h) (by simp), h.2.app G⟩
theorem CurTo.next {H H1 H2 : Heap} {c n : Nat} (h : CurTo H H1 c n) (h2 : CurTo H1 H2 c n) : CurTo H H2 c n := ⟨h.1.trans h2.1 (fun _ h _ => h) (fun _ h _ => h), h2.2⟩
theorem CurTo.base {H G H' : Heap} {c n : Nat} (h : CurTo (H ++ G) H' c n) : CurTo H H' c n := ⟨h.1.base, h.2⟩
theorem CurTo.set {H H' : Heap} {c n : Nat} (h : CurTo H H' c n) {id : Nat} (hid : H.length ≤ id) (hc : c < id) (y : Option Blk) : CurTo H (H'.set id y) c n :=
  ⟨h.1.trans (Keep.set _ _) (fun _ h _ => h) (fun i hi hlt => by simp at hi; omega), h.2.keep (Keep.set _ _) (by simpa using hc)⟩
theorem CurTo.own {H H' H2 : Heap} {c n : Nat} (h : CurTo H H' c n) {f : List Nat} (hk : Keep f H' H2) (hf : ∀ i ∈ f, H.length ≤ i) (hc : c < H.length) : CurTo H H2 c n :=
  ⟨h.1.trans hk (fun _ h _ => h) (fun i hi hlt => by have := hf i hi; omega), h.2.keep hk (fun i hi => by have := hf i hi; omega)⟩
theorem CurTo.leave {H H' : Heap} {c n : Nat} (h : CurTo H H' c n) (hc : Cur H c n) (ws : List W) : CurTo H (Go.Ab.leave H H' ws) c n := by
  rcases leave_or H H' ws with e | ⟨e, -⟩ <;> rw [e]
  · exact h
  · exact CurTo.refl hc
theorem CurTo.len {H H' : Heap} {c n : Nat} (h : CurTo H H' c n) : H.length ≤ H'.length := h.1.1
/-- Of what was there only the cursor's block turned. -/
theorem CurTo.only {H H' : Heap} {c n : Nat} (h : CurTo H H' c n) (hc : Cur H c n) : onlyT (some 154) H H' = true := by
  unfold onlyT
  simp only [List.all_eq_true, List.mem_range, Bool.or_eq_true, decide_eq_true_eq]
  intro id hid
  by_cases he : id = c
  · subst he
    obtain ⟨a, i, h0, bs, h1, -⟩ := hc
    obtain ⟨a', i', h0', bs', h1', -⟩ := h.2
    have e1 := blkAt_some h1
    have e2 := blkAt_some h1'
    right
    rw [e1, e2]
    rfl
  · exact .inl (h.1.2 id hid (by simpa using he))

/-- A call of a function that draws. -/
theorem stpL_cur {call : Fun} {draw : Bool} {tm : Ab.T} {H : Heap} {Q : Ex → Ab.T → Heap → Prop} {fr : List Fr} {is : List I2} {f : Nat} {args : List V} {d : Option Nat} {K : V → Heap → Prop} {x y : List (Nat × Nat × Nat)} {c n : Nat} (h : Runs env f args H K) (hc : Cur H c n) (hto : ∀ v H', K v H' → CurTo H H' c n)
    (hk : ∀ v H', K v H' → stpL env call (some (v, H')) d draw is fr tm Q) (hw : env.wr f = true := by rfl) (hn : env.wt f = some 154 := by rfl) : stpL env call (guardCall env draw (.w (.lf (.fn f x y))) H (run env f args H)) d draw is fr tm Q := by
  obtain ⟨v, H', hr, hK⟩ := h
  have : guardCall env draw (.w (.lf (.fn f x y))) H (run env f args H) = some (v, H') := by
    rw [hr]
    unfold guardCall
    split
    · rfl
    · have h1 := hto v H' hK
      simp [hw, hn, h1.len, h1.only hc]
  rw [this]
  exact hk v H' hK

theorem and255 (a : Int) : 0 ≤ IntKind.i64.wrap ((BitVec.ofInt 64 a &&& 255#64).toNat : Nat) ∧ IntKind.i64.wrap ((BitVec.ofInt 64 a &&& 255#64).toNat : Nat) ≤ 255 := by
  have h : (BitVec.ofInt 64 a &&& 255#64).toNat ≤ 255 := by
    rw [BitVec.toNat_and]
    exact Nat.le_trans Nat.and_le_right (by decide)
  rw [wrap64 (by omega) (by omega)]
  omega
theorem l1Byte {H : Heap} {c n : Nat} (hc : Cur H c n) : Runs env 161 [.ptr c 0 0] H fun v H' => (∃ x : Int, v = .int x ∧ 0 ≤ x ∧ x ≤ 255) ∧ CurTo H H' c n := by
  have hc0 := hc
  obtain ⟨a, i, h, bs, h1, h2, h3, h4, h5, h6, h7⟩ := hc
  have hl := blkAt_len h1
  refine Runs.walk ok161 Try.func161 rfl (by simp [Try.f161]) fun Q hQ => ?_
  simp only [Try.f161, strip, stripL, stripI, stripG, chkT, tagsB, tagsL, tagD, addT, tagA, lookN, tagOp, elmT, ty22, ty24, ty33, ty40, ty44, ty54, ty55, ty63, ty171, ty175, ty176, ty183, Nat.reduceEqDiff, if_false, reduceIte, Option.getD_some, Option.getD_none, dstAt, dstOk, Nat.reduceLT, decide_true, if_true]
  have hset : ∀ y : Blk, blkAt (H.set c (some y)) c = some y := fun y => blkAt_set hl
  have hto : ∀ (i' h' : Int), 0 ≤ i' → i' ≤ n → CurTo H (H.set c (some ⟨154, .wr, [[.sl a n, .i .i64 i', .i .i64 h']]⟩)) c n := fun i' h' g1 g2 =>
    ⟨Keep.set _ _, a, i', h', bs, hset _, g1, g2, h4, h5, h6, by
      by_cases hb : bs = []
      · subst hb; exact Sl.nil _ _ _
      · exact h7.keep (Keep.set _ _) (fun id r he hi => by have := h6 id r he hb; simp at hi; omega)⟩
  simp [h1, hl, hset, builtinV, pureB, lenV, binV, binInt, cmpI, arI, IntKind.bits]
  refine selS_intro (fun hc1 => ?_) (fun hc1 => ?_)
  · simp at hc1
    obtain ⟨k, rfl⟩ : ∃ k : Nat, i = (k : Int) := ⟨i.toNat, by omega⟩
    have hk : k < bs.length := by omega
    obtain ⟨id3, r3, bl3, rfl, hb3, hbe3, hrow3⟩ := h7 k _ (by rw [List.getElem?_map, List.getElem?_eq_getElem hk]; rfl)
    have hid3 := blkAt_len hb3
    have hlt3 : id3 < c := h6 id3 r3 rfl (by rintro rfl; simp at hk)
    have hse : ∀ y : Option Blk, blkAt (H.set c y) id3 = some bl3 := fun y => by rw [blkAt_set_ne (by omega)]; exact hb3
    have hkn : k < n := by omega
    have hkI : (k : Int) < n := by omega
    have hw : IntKind.i64.wrap ((k : Int) + 1) = (k : Int) + 1 := wrap64 (by omega) (by omega)
    simp [hset, hl, hse, hid3, hbe3, hrow3, indexAddrV, elemIs, hkn, hkI, encU, binV, binInt, cmpI, arI, IntKind.bits, convV, hw]
    refine hQ _ _ _ (by simp) ?_
    simp [Try.f161]
    exact ⟨and255 _, (hto _ _ (by omega) (by omega)).leave hc0 _⟩
  · simp at hc1
    simp
    refine hQ _ _ _ (by simp) ?_
    simp [Try.f161]
    exact ⟨and255 _, (hto _ _ h2 h3).leave hc0 _⟩

theorem tmod_le {s k : Int} (hs : 0 ≤ s) (hk : 0 < k) : s.tmod k ≤ s := by
  rw [Int.tmod_eq_emod_of_nonneg hs]
  obtain ⟨a, rfl⟩ := Int.eq_ofNat_of_zero_le hs
  obtain ⟨b, rfl⟩ := Int.eq_ofNat_of_zero_le (show 0 ≤ k by omega)
  have := Nat.mod_le a b
  omega
theorem l1Below {H : Heap} {c n : Nat} (hc : Cur H c n) (k : Int) : Runs env 97 [.ptr c 0 0, .int k] H fun v H' => (∃ x : Int, v = .int x ∧ 0 ≤ x ∧ (0 < k → x < k) ∧ x ≤ 4294967295) ∧ CurTo H H' c n := by
  refine Runs.walk ok97 Try.func97 rfl (by simp [Try.f97]) fun Q hQ => ?_
  simp only [Try.f97, strip, stripL, stripI, stripG, chkT, tagsB, tagsL, tagD, addT, tagA, lookN, tagOp, elmT, ty22, ty24, ty33, ty40, ty44, ty54, ty55, ty63, ty171, ty175, ty176, ty183, Nat.reduceEqDiff, if_false, reduceIte, Option.getD_some, Option.getD_none, dstAt, dstOk, Nat.reduceLT, decide_true, if_true]
  have fin : ∀ (HF : Heap) (tm : Ab.T) (x : Int), tm 4 = .int x → 0 ≤ x → (0 < k → x < k) → x ≤ 4294967295 → CurTo H HF c n → Q .ret tm HF := by
    intro HF tm x t4 h1 h2 h3 hto
    refine hQ _ _ _ (by simp) ?_
    simp [Try.f97, t4]
    exact ⟨⟨h1, h2, h3⟩, hto.leave hc _⟩
  simp
  by_cases hk : k ≤ 0
  · simp [hk]
    exact fin _ _ 0 (by simp) (by omega) (by omega) (by omega) (CurTo.refl hc)
  have hk0 : ¬ k = 0 := by omega
  simp [hk]
  by_cases hk2 : k ≤ 256
  · simp [hk2]
    refine stpL_runs (l1Byte hc) ?_
    rintro _ H1 ⟨⟨x, rfl, hx1, hx2⟩, hto⟩
    simp [hk0]
    have h1 := Int.tmod_nonneg k hx1
    have h2 := Int.tmod_lt_of_pos x (show 0 < k by omega)
    exact fin _ _ (x.tmod k) (by simp) h1 (fun _ => h2) (by omega) hto
  · simp [hk2]
    refine stpL_runs (l1Byte hc) ?_
    rintro _ H1 ⟨⟨x, rfl, hx1, hx2⟩, hto1⟩
    simp
    refine stpL_runs (l1Byte hto1.2) ?_
    rintro _ H2 ⟨⟨y, rfl, hy1, hy2⟩, hto2⟩
    simp
    refine stpL_runs (l1Byte hto2.2) ?_
    rintro _ H3 ⟨⟨z, rfl, hz1, hz2⟩, hto3⟩
    simp
    refine stpL_runs (l1Byte hto3.2) ?_
    rintro _ H4 ⟨⟨w, rfl, hw1, hw2⟩, hto4⟩
    have g1 : IntKind.i64.wrap (x * 16777216) = x * 16777216 := wrap64 (by omega) (by omega)
    have g2 : IntKind.i64.wrap (y * 65536) = y * 65536 := wrap64 (by omega) (by omega)
    have g3 : IntKind.i64.wrap (x * 16777216 + y * 65536) = x * 16777216 + y * 65536 := wrap64 (by omega) (by omega)
    have g4 : IntKind.i64.wrap (z * 256) = z * 256 := wrap64 (by omega) (by omega)
    have g5 : IntKind.i64.wrap (x * 16777216 + y * 65536 + z * 256) = x * 16777216 + y * 65536 + z * 256 := wrap64 (by omega) (by omega)
    have g6 : IntKind.i64.wrap (x * 16777216 + y * 65536 + z * 256 + w) = x * 16777216 + y * 65536 + z * 256 + w := wrap64 (by omega) (by omega)
    simp [hk0, g1, g2, g3, g4, g5, g6]
    obtain ⟨s, hs⟩ : ∃ s, s = x * 16777216 + y * 65536 + z * 256 + w := ⟨_, rfl⟩
    have hs0 : 0 ≤ s := by omega
    have h1 := Int.tmod_nonneg k hs0
    have h2 := Int.tmod_lt_of_pos s (show 0 < k by omega)
    have h3 : s.tmod k ≤ s := tmod_le hs0 (by omega)
    refine fin _ _ (s.tmod k) ?_ h1 (fun _ => h2) (by omega) (((hto1.next hto2).next hto3).next hto4)
    simp [hs]

theorem l1Once {H : Heap} {c n : Nat} (hc : Cur H c n) (k : Int) : Runs env 99 [.ptr c 0 0, .int k] H fun v H' => (∃ b : Bool, v = .bool b) ∧ CurTo H H' c n := by
  refine Runs.walk ok99 Try.func99 rfl (by simp [Try.f99]) fun Q hQ => ?_
  simp only [Try.f99, strip, stripL, stripI, stripG, chkT, tagsB, tagsL, tagD, addT, tagA, lookN, tagOp, elmT, ty22, ty24, ty33, ty40, ty44, ty54, ty55, ty63, ty171, ty175, ty176, ty183, Nat.reduceEqDiff, if_false, reduceIte, Option.getD_some, Option.getD_none, dstAt, dstOk, Nat.reduceLT, decide_true, if_true]
  simp
  refine stpL_runs (l1Below hc k) ?_
  rintro _ H1 ⟨⟨x, rfl, hx1, hx2⟩, hto⟩
  simp
  refine hQ _ _ _ (by simp) ?_
  simp [Try.f99]
  exact ⟨by omega, hto.leave hc _⟩

theorem l1PickInt {H : Heap} {c n : Nat} (hc : Cur H c n) {a : Option (Nat × Nat)} {xs : List Int} (hs : Sl H 3 a (xs.map encI)) (hx : xs ≠ []) (hlen : xs.length ≤ 1048576) :
    Runs env 104 [.ptr c 0 0, .w (.lf (.sl a xs.length))] H fun v H' => (∃ x : Int, v = .int x ∧ x ∈ xs) ∧ CurTo H H' c n := by
  have hpos : 0 < xs.length := List.length_pos_iff.2 hx
  refine Runs.walk ok104 Try.func104 rfl (by simp [Try.f104]) fun Q hQ => ?_
  simp only [Try.f104, strip, stripL, stripI, stripG, chkT, tagsB, tagsL, tagD, addT, tagA, lookN, tagOp, elmT, ty22, ty24, ty33, ty40, ty44, ty54, ty55, ty63, ty171, ty175, ty176, ty183, Nat.reduceEqDiff, if_false, reduceIte, Option.getD_some, Option.getD_none, dstAt, dstOk, Nat.reduceLT, decide_true, if_true]
  simp [builtinV, pureB, lenV]
  refine stpL_runs (l1Below hc xs.length) ?_
  rintro _ H1 ⟨⟨x, rfl, hx1, hx2, -⟩, hto⟩
  have hxl := hx2 (by omega)
  obtain ⟨k, rfl⟩ : ∃ k : Nat, x = (k : Int) := ⟨x.toNat, by omega⟩
  have hk : k < xs.length := by omega
  obtain ⟨id3, r3, bl3, rfl, hb3, hbe3, hrow3⟩ := hs k _ (by rw [List.getElem?_map, List.getElem?_eq_getElem hk]; rfl)
  have hne := hc.ne hb3 (by rw [hbe3]; decide)
  have hb4 := hto.1.blk hb3 (by simpa using hne)
  have hid4 := blkAt_len hb4
  have hkI : (k : Int) < xs.length := by omega
  simp [hb4, hid4, hbe3, hrow3, indexAddrV, elemIs, hk, hkI, encI]
  refine hQ _ _ _ (by simp) ?_
  simp [Try.f104]
  exact hto.leave hc _

theorem l6DrawRight {H : Heap} {c n : Nat} (hc : Cur H c n) : Runs env 172 [.ptr c 0 0] H fun v H' => (∃ x : Vec, v = .agg x.enc) ∧ CurTo H H' c n := by
  have hcl := hc.lt
  refine Runs.walk ok172 Try.func172 rfl (by simp [Try.f172]) fun Q hQ => ?_
  simp only [Try.f172, strip, stripL, stripI, stripG, chkT, tagsB, tagsL, tagD, addT, tagA, lookN, tagOp, elmT, ty22, ty24, ty33, ty40, ty44, ty54, ty55, ty63, ty171, ty175, ty176, ty183, Nat.reduceEqDiff, if_false, reduceIte, Option.getD_some, Option.getD_none, dstAt, dstOk, Nat.reduceLT, decide_true, if_true]
  have fin : ∀ (HF : Heap) (tm : Ab.T) (x : Vec), tm 2 = .ptr H.length 0 0 → blkAt HF H.length = some ⟨28, .wr, [x.enc]⟩ → CurTo H HF c n → Q .ret tm HF := by
    intro HF tm x t2 hb hto
    refine hQ _ _ _ (by simp) ?_
    have hres : resT env.τ tm HF (Try.f172.results.toList) = some [W.agg x.enc] := by simp [Try.f172, t2, hb]
    rw [hres, optK_some]
    exact ⟨⟨x, rfl⟩, hto.leave hc _⟩
  have hcX := hc.app [some ⟨28, .wr, [[.i .i64 0, .i .i64 0, .i .i64 0, .i .i64 0]]⟩]
  have bzX : blkAt (H ++ [some ⟨28, .wr, [[.i .i64 0, .i .i64 0, .i .i64 0, .i .i64 0]]⟩]) H.length = some ⟨28, .wr, [[.i .i64 0, .i .i64 0, .i .i64 0, .i .i64 0]]⟩ := by simp
  have hlX : (H ++ [some ⟨28, .wr, [[.i .i64 0, .i .i64 0, .i .i64 0, .i .i64 0]]⟩] : Heap).length = H.length + 1 := by simp
  simp
  refine stpL_runs (l1Below hcX 4) ?_
  rintro _ H1 ⟨⟨x, rfl, hx⟩, hto1⟩
  simp
  refine stpL_runs (l1Below hto1.2 4) ?_
  rintro _ H2 ⟨⟨y, rfl, hy⟩, hto2⟩
  have hto := hto1.next hto2
  have bz2 := hto.1.blk bzX (by simp; omega)
  have dz2 := blkAt_len bz2
  have hcc2 := hto.base
  have hl2 := hto.len
  rw [hlX] at hl2
  obtain ⟨r, hr⟩ : ∃ r, r = IntKind.i64.wrap (1 + x) := ⟨_, rfl⟩
  simp [← hr]
  have hcM := hto.2.app [some ⟨28, .wr, [[.i .i64 r, .i .i64 0, .i .i64 0, .i .i64 y]]⟩]
  refine stpL_cur (l1Below hcM 3) hcM (fun v H' h => h.2) ?_
  rintro _ H3 ⟨⟨z, rfl, hz⟩, hto3⟩
  have b3 : blkAt H3 H2.length = some ⟨28, .wr, [[.i .i64 r, .i .i64 0, .i .i64 0, .i .i64 y]]⟩ := hto3.1.blk (by simp) (by simp; omega)
  have bz3 := hto3.1.blk (blkAt_app bz2 _) (by simp; omega)
  have d3 := blkAt_len b3
  have dz3 := blkAt_len bz3
  have hcc3 := hcc2.next hto3.base
  obtain ⟨g, hg⟩ : ∃ g, g = IntKind.i64.wrap (r + z) := ⟨_, rfl⟩
  have hset : ∀ (Y : Heap) (y : Blk), H2.length < Y.length → blkAt (List.set Y H2.length (some y)) H2.length = some y := fun Y y h => blkAt_set h
  have hne3 : ∀ (Y : Heap) (y : Option Blk), blkAt (List.set Y H2.length y) H.length = blkAt Y H.length := fun Y y => blkAt_set_ne (by omega)
  simp [b3, d3, ← hg, hset]
  refine selS_intro (fun hq => ?_) (fun hq => ?_)
  · simp
    have hcS := (hcc3.set (id := H2.length) (by omega) (by omega) (some ⟨28, .wr, [[.i .i64 r, .i .i64 0, .i .i64 g, .i .i64 y]]⟩))
    refine stpL_runs (l1Below hcS.2 3) ?_
    rintro _ H4 ⟨⟨u, rfl, hu⟩, hto4⟩
    have b4 := hto4.1.blk (blkAt_set d3) (by simp; omega)
    have bz4 := hto4.1.blk (show blkAt (H3.set H2.length _) H.length = _ from (hne3 _ _).trans bz3) (by simp; omega)
    have d4 := blkAt_len b4
    have dz4 := blkAt_len bz4
    have hcc4 := hcS.next hto4
    simp [b4, d4, bz4, dz4, hset, hne3]
    refine fin _ _ ⟨_, _, _, _⟩ ?_ (blkAt_set (Nat.lt_of_lt_of_eq dz4 (List.length_set).symm)) ((hcc4.set (by omega) (by omega) _).set (by omega) (by omega) _)
    simp
  · simp [b3, d3, bz3, dz3, hset, hne3]
    refine fin _ _ ⟨_, _, _, _⟩ ?_ (blkAt_set (Nat.lt_of_lt_of_eq dz3 (List.length_set).symm)) ((hcc3.set (by omega) (by omega) _).set (by omega) (by omega) _)
    simp

theorem l6Draw {H : Heap} {c n : Nat} (hc : Cur H c n) : Runs env 145 [.ptr c 0 0] H fun v H' => (∃ x : Vec, v = .agg x.enc) ∧ CurTo H H' c n := by
  have hcl := hc.lt
  refine Runs.walk ok145 Try.func145 rfl (by simp [Try.f145]) fun Q hQ => ?_
  simp only [Try.f145, strip, stripL, stripI, stripG, chkT, tagsB, tagsL, tagD, addT, tagA, lookN, tagOp, elmT, ty22, ty24, ty33, ty40, ty44, ty54, ty55, ty63, ty171, ty175, ty176, ty183, Nat.reduceEqDiff, if_false, reduceIte, Option.getD_some, Option.getD_none, dstAt, dstOk, Nat.reduceLT, decide_true, if_true]
  have fin : ∀ (HF : Heap) (tm : Ab.T) (x : Vec), tm 2 = .ptr H.length 0 0 → blkAt HF H.length = some ⟨28, .wr, [x.enc]⟩ → CurTo H HF c n → Q .ret tm HF := by
    intro HF tm x t2 hb hto
    refine hQ _ _ _ (by simp) ?_
    have hres : resT env.τ tm HF (Try.f145.results.toList) = some [W.agg x.enc] := by simp [Try.f145, t2, hb]
    rw [hres, optK_some]
    exact ⟨⟨x, rfl⟩, hto.leave hc _⟩
  have hcX := hc.app [some ⟨28, .wr, [[.i .i64 0, .i .i64 0, .i .i64 0, .i .i64 0]]⟩]
  have bzX : blkAt (H ++ [some ⟨28, .wr, [[.i .i64 0, .i .i64 0, .i .i64 0, .i .i64 0]]⟩]) H.length = some ⟨28, .wr, [[.i .i64 0, .i .i64 0, .i .i64 0, .i .i64 0]]⟩ := by simp
  have hlX : (H ++ [some ⟨28, .wr, [[.i .i64 0, .i .i64 0, .i .i64 0, .i .i64 0]]⟩] : Heap).length = H.length + 1 := by simp
  simp
  refine stpL_runs (l6DrawRight hcX) ?_
  rintro _ H1 ⟨⟨x, rfl⟩, hto1⟩
  have bz1 := hto1.1.blk bzX (by simp; omega)
  have dz1 := blkAt_len bz1
  have hcc1 := hto1.base
  have hl1 := hto1.len
  rw [hlX] at hl1
  simp [Vec.enc]
  have hcM := hto1.2.app [some ⟨28, .wr, [[.i .i64 x.root, .i .i64 x.cost, .i .i64 x.bridge, .i .i64 x.port]]⟩]
  refine stpL_runs (l1Below hcM 10) ?_
  rintro _ H2 ⟨⟨k, rfl, -⟩, hto2⟩
  have b3 : blkAt H2 H1.length = some ⟨28, .wr, [[.i .i64 x.root, .i .i64 x.cost, .i .i64 x.bridge, .i .i64 x.port]]⟩ := hto2.1.blk (by simp) (by simp; omega)
  have bz2 := hto2.1.blk (blkAt_app bz1 _) (by simp; omega)
  have d3 := blkAt_len b3
  have dz2 := blkAt_len bz2
  have hcc2 := hcc1.next hto2.base
  have hne3 : ∀ (Y : Heap) (y : Option Blk), blkAt (List.set Y H1.length y) H.length = blkAt Y H.length := fun Y y => blkAt_set_ne (by omega)
  have hne4 : ∀ (Y : Heap) (y : Blk), H1.length < Y.length → blkAt (List.set Y H1.length (some y)) H1.length = some y := fun Y y h => blkAt_set h
  by_cases c0 : k = 0
  · simp [c0]
    have hcL := hto2.2.app [some ⟨3, .wr, [encI 0, encI 9, encI 10]⟩]
    simp only [encI] at hcL
    refine stpL_runs (l1PickInt (xs := [0, 9, 10]) hcL (Sl.of (by simp [encI])) (by simp) (by simp)) ?_
    rintro _ H3 ⟨⟨y, rfl, -⟩, hto3⟩
    have hto3 := hto3.base
    have b33 := hto3.1.blk b3 (by simp; omega)
    have bz3 := hto3.1.blk bz2 (by simp; omega)
    have d33 := blkAt_len b33
    have dz3 := blkAt_len bz3
    have hcc3 := hcc2.next hto3
    simp [b33, d33, bz3, dz3, hne3, hne4, Vec.enc]
    refine fin _ _ ⟨y, x.cost, x.bridge, x.port⟩ ?_ (blkAt_set (Nat.lt_of_lt_of_eq dz3 (List.length_set).symm)) ((hcc3.set (by omega) (by omega) _).set (by omega) (by omega) _)
    simp
  by_cases c1 : k = 1
  · simp [c1]
    have hcL := hto2.2.app [some ⟨3, .wr, [encI (-1), encI 0, encI 20, encI 21]⟩]
    simp only [encI] at hcL
    refine stpL_runs (l1PickInt (xs := [(-1), 0, 20, 21]) hcL (Sl.of (by simp [encI])) (by simp) (by simp)) ?_
    rintro _ H3 ⟨⟨y, rfl, -⟩, hto3⟩
    have hto3 := hto3.base
    have b33 := hto3.1.blk b3 (by simp; omega)
    have bz3 := hto3.1.blk bz2 (by simp; omega)
    have d33 := blkAt_len b33
    have dz3 := blkAt_len bz3
    have hcc3 := hcc2.next hto3
    simp [b33, d33, bz3, dz3, hne3, hne4, Vec.enc]
    refine fin _ _ ⟨x.root, y, x.bridge, x.port⟩ ?_ (blkAt_set (Nat.lt_of_lt_of_eq dz3 (List.length_set).symm)) ((hcc3.set (by omega) (by omega) _).set (by omega) (by omega) _)
    simp
  by_cases c2 : k = 2
  · simp [c2]
    have hcL := hto2.2.app [some ⟨3, .wr, [encI 0, encI 9, encI 10]⟩]
    simp only [encI] at hcL
    refine stpL_runs (l1PickInt (xs := [0, 9, 10]) hcL (Sl.of (by simp [encI])) (by simp) (by simp)) ?_
    rintro _ H3 ⟨⟨y, rfl, -⟩, hto3⟩
    have hto3 := hto3.base
    have b33 := hto3.1.blk b3 (by simp; omega)
    have bz3 := hto3.1.blk bz2 (by simp; omega)
    have d33 := blkAt_len b33
    have dz3 := blkAt_len bz3
    have hcc3 := hcc2.next hto3
    simp [b33, d33, bz3, dz3, hne3, hne4, Vec.enc]
    refine fin _ _ ⟨x.root, x.cost, y, x.port⟩ ?_ (blkAt_set (Nat.lt_of_lt_of_eq dz3 (List.length_set).symm)) ((hcc3.set (by omega) (by omega) _).set (by omega) (by omega) _)
    simp
  by_cases c3 : k = 3
  · simp [c3]
    have hcL := hto2.2.app [some ⟨3, .wr, [encI (-1), encI 3, encI 4]⟩]
    simp only [encI] at hcL
    refine stpL_runs (l1PickInt (xs := [(-1), 3, 4]) hcL (Sl.of (by simp [encI])) (by simp) (by simp)) ?_
    rintro _ H3 ⟨⟨y, rfl, -⟩, hto3⟩
    have hto3 := hto3.base
    have b33 := hto3.1.blk b3 (by simp; omega)
    have bz3 := hto3.1.blk bz2 (by simp; omega)
    have d33 := blkAt_len b33
    have dz3 := blkAt_len bz3
    have hcc3 := hcc2.next hto3
    simp [b33, d33, bz3, dz3, hne3, hne4, Vec.enc]
    refine fin _ _ ⟨x.root, x.cost, x.bridge, y⟩ ?_ (blkAt_set (Nat.lt_of_lt_of_eq dz3 (List.length_set).symm)) ((hcc3.set (by omega) (by omega) _).set (by omega) (by omega) _)
    simp
  simp [c0, c1, c2, c3, b3, d3, bz2, dz2]
  refine fin _ _ ⟨_, _, _, _⟩ ?_ (blkAt_set dz2) (hcc2.set (by omega) (by omega) _)
  simp

theorem l7DrawRight {H : Heap} {c n : Nat} (hc : Cur H c n) : Runs env 171 [.ptr c 0 0] H fun v H' => (∃ x : Port, v = .agg x.enc) ∧ CurTo H H' c n := by
  have hcl := hc.lt
  refine Runs.walk ok171 Try.func171 rfl (by simp [Try.f171]) fun Q hQ => ?_
  simp only [Try.f171, strip, stripL, stripI, stripG, chkT, tagsB, tagsL, tagD, addT, tagA, lookN, tagOp, elmT, ty22, ty24, ty33, ty40, ty44, ty54, ty55, ty63, ty171, ty175, ty176, ty183, Nat.reduceEqDiff, if_false, reduceIte, Option.getD_some, Option.getD_none, dstAt, dstOk, Nat.reduceLT, decide_true, if_true]
  have fin : ∀ (HF : Heap) (tm : Ab.T) (x : Port), tm 2 = .ptr H.length 0 0 → blkAt HF H.length = some ⟨43, .wr, [x.enc]⟩ → CurTo H HF c n → Q .ret tm HF := by
    intro HF tm x t2 hb hto
    refine hQ _ _ _ (by simp) ?_
    have hres : resT env.τ tm HF (Try.f171.results.toList) = some [W.agg x.enc] := by simp [Try.f171, t2, hb]
    rw [hres, optK_some]
    exact ⟨⟨x, rfl⟩, hto.leave hc _⟩
  have hcX := hc.app [some ⟨43, .wr, [[.b false, .b false, .i .i64 0, .i .i64 0, .i .i64 0, .i .i64 0, .i .i64 0, .i .i64 0, .i .i64 0, .i .i64 0, .b false]]⟩]
  have bzX : blkAt (H ++ [some ⟨43, .wr, [[.b false, .b false, .i .i64 0, .i .i64 0, .i .i64 0, .i .i64 0, .i .i64 0, .i .i64 0, .i .i64 0, .i .i64 0, .b false]]⟩]) H.length = some ⟨43, .wr, [[.b false, .b false, .i .i64 0, .i .i64 0, .i .i64 0, .i .i64 0, .i .i64 0, .i .i64 0, .i .i64 0, .i .i64 0, .b false]]⟩ := by simp
  have hlX : (H ++ [some ⟨43, .wr, [[.b false, .b false, .i .i64 0, .i .i64 0, .i .i64 0, .i .i64 0, .i .i64 0, .i .i64 0, .i .i64 0, .i .i64 0, .b false]]⟩] : Heap).length = H.length + 1 := by simp
  have eO := fun H p => l7Open H p
  have eF := fun H p => specFade H p
  have eT := fun H p r => specTurn H p r
  have eC := fun H p v h => specClaim H p v h
  simp only [Port.enc, Vec.enc] at eO eF eT eC
  simp
  refine stpL_runs (l1Once hcX 5) ?_
  rintro _ H1 ⟨⟨b, rfl⟩, hto1⟩
  have bz1 := hto1.1.blk bzX (by simp; omega)
  have dz1 := blkAt_len bz1
  have hcc1 := hto1.base
  have hl1 := hto1.len
  rw [hlX] at hl1
  cases b
  rotate_left
  · simp [bz1, dz1]
    refine fin _ _ ⟨_, _, ⟨_, _, _, _⟩, _, _, _, _, _⟩ ?_ (blkAt_set dz1) (hcc1.set (by omega) (by omega) _)
    simp
  simp
  have hcL := hto1.2.app [some ⟨3, .wr, [encI 0, encI 2, encI 4]⟩]
  simp only [encI] at hcL
  refine stpL_runs (l1PickInt (xs := [0, 2, 4]) hcL (Sl.of (by simp [encI])) (by simp) (by simp)) ?_
  rintro _ H2 ⟨⟨w, rfl, -⟩, hto2⟩
  have bz2 := hto2.1.blk (blkAt_app bz1 _) (by simp; omega)
  have dz2 := blkAt_len bz2
  have hcc2 := hcc1.next hto2.base
  have hl2 := hto2.base.len
  simp
  have hcM := hto2.2.app [some ⟨43, .wr, [[.b true, .b false, .i .i64 0, .i .i64 0, .i .i64 0, .i .i64 0, .i .i64 0, .i .i64 0, .i .i64 2, .i .i64 w, .b false]]⟩]
  refine stpL_runs (l1Once hcM 3) ?_
  rintro _ H3 ⟨⟨b, rfl⟩, hto3⟩
  have b3 : blkAt H3 H2.length = some ⟨43, .wr, [[.b true, .b false, .i .i64 0, .i .i64 0, .i .i64 0, .i .i64 0, .i .i64 0, .i .i64 0, .i .i64 2, .i .i64 w, .b false]]⟩ := hto3.1.blk (by simp) (by simp; omega)
  have bz3 := hto3.1.blk (blkAt_app bz2 _) (by simp; omega)
  have hcc3 := hcc2.next hto3.base
  have hne3 : ∀ (Y : Heap) (y : Option Blk), blkAt (List.set Y H2.length y) H.length = blkAt Y H.length := fun Y y => blkAt_set_ne (by omega)
  have d3 := blkAt_len b3
  have dz3 := blkAt_len bz3
  obtain ⟨p0, hp0⟩ : ∃ p0 : Port, p0 = ⟨true, false, ⟨0, 0, 0, 0⟩, 0, 0, 2, w, false⟩ := ⟨_, rfl⟩
  cases b
  rotate_left
  · simp
    simp [b3, d3]
    have e0 := fun H => l7Open H p0
    rw [hp0] at e0
    simp only [Port.enc] at e0
    simp [e0]
    refine stpL_runs (l1Below hcc3.2 3) ?_
    rintro _ H7 ⟨⟨r, rfl, -⟩, hto7⟩
    have bz7 := hto7.1.blk bz3 (by simp; omega)
    have dz7 := blkAt_len bz7
    have et := fun H => specTurn H (⟨true, false, ⟨0, 0, 0, 0⟩, 0, 0, 2, w, openBy 2 w⟩ : Port) (IntKind.i64.wrap (1 + r))
    simp only [Port.enc] at et
    simp [et, bz7, dz7]
    refine fin _ _ (turnP (⟨true, false, ⟨0, 0, 0, 0⟩, 0, 0, 2, w, openBy 2 w⟩ : Port) (IntKind.i64.wrap (1 + r))) ?_ (blkAt_set dz7) ((hcc3.next hto7).set (by omega) (by omega) _)
    simp
  simp [b3, d3]
  have e0 := fun H => l7Open H p0
  rw [hp0] at e0
  simp only [Port.enc] at e0
  simp [e0]
  obtain ⟨p1, hp1⟩ : ∃ p1 : Port, p1 = ⟨true, false, ⟨0, 0, 0, 0⟩, 0, 0, 2, w, openBy 2 w⟩ := ⟨_, rfl⟩
  refine stpL_runs (l6DrawRight hto3.2) ?_
  rintro _ H4 ⟨⟨v, rfl⟩, hto4⟩
  simp [Vec.enc]
  refine stpL_runs (l1Below hto4.2 4) ?_
  rintro _ H5 ⟨⟨h, rfl, -⟩, hto5⟩
  have hto45 := hto4.next hto5
  have b5 := hto45.1.blk b3 (by simp; omega)
  have bz5 := hto45.1.blk bz3 (by simp; omega)
  have d5 := blkAt_len b5
  have hcc5 := hcc3.next hto45
  have e1 := fun H => specClaim H p1 v h
  rw [hp1] at e1
  simp only [Port.enc, Vec.enc] at e1
  obtain ⟨p2, hp2⟩ : ∃ p2 : Port, p2 = claimP p1 v h := ⟨_, rfl⟩
  rw [← hp1, ← hp2] at e1
  simp [e1, b5, d5]
  have bs := blkAt_set (b := ⟨43, .wr, [[.b p2.up, .b p2.has, .i .i64 p2.vec.root, .i .i64 p2.vec.cost, .i .i64 p2.vec.bridge, .i .i64 p2.vec.port, .i .i64 p2.hops, .i .i64 p2.left, .i .i64 p2.role, .i .i64 p2.wait, .b p2.opn]]⟩) d5
  have bzs := (hne3 H5 (some ⟨43, .wr, [[.b p2.up, .b p2.has, .i .i64 p2.vec.root, .i .i64 p2.vec.cost, .i .i64 p2.vec.bridge, .i .i64 p2.vec.port, .i .i64 p2.hops, .i .i64 p2.left, .i .i64 p2.role, .i .i64 p2.wait, .b p2.opn]]⟩)).trans bz5
  have hcs := hcc5.set (id := H2.length) (by omega) (by omega) (some ⟨43, .wr, [[.b p2.up, .b p2.has, .i .i64 p2.vec.root, .i .i64 p2.vec.cost, .i .i64 p2.vec.bridge, .i .i64 p2.vec.port, .i .i64 p2.hops, .i .i64 p2.left, .i .i64 p2.role, .i .i64 p2.wait, .b p2.opn]]⟩)
  refine stpL_runs (l1Once hcs.2 3) ?_
  rintro _ H6 ⟨⟨b, rfl⟩, hto6⟩
  have b6 := hto6.1.blk bs (by simp; omega)
  have bz6 := hto6.1.blk bzs (by simp; omega)
  have d6 := blkAt_len b6
  have dz6 := blkAt_len bz6
  have hcc6 := hcs.next hto6
  have eo := fun H => l7Open H p2
  simp only [Port.enc] at eo
  cases b
  · simp [b6, d6, eo]
    refine stpL_runs (l1Below hcc6.2 3) ?_
    rintro _ H7 ⟨⟨r, rfl, -⟩, hto7⟩
    have bz7 := hto7.1.blk bz6 (by simp; omega)
    have dz7 := blkAt_len bz7
    have et := fun H => specTurn H ({ p2 with opn := openBy p2.role p2.wait } : Port) (IntKind.i64.wrap (1 + r))
    simp only [Port.enc] at et
    simp [et, bz7, dz7]
    refine fin _ _ (turnP ({ p2 with opn := openBy p2.role p2.wait } : Port) (IntKind.i64.wrap (1 + r))) ?_ (blkAt_set dz7) ((hcc6.next hto7).set (by omega) (by omega) _)
    simp
  · have ef := fun H => specFade H p2
    obtain ⟨p3, hp3⟩ : ∃ p3 : Port, p3 = fadeP p2 := ⟨_, rfl⟩
    rw [← hp3] at ef
    simp only [Port.enc] at ef
    have eo3 := fun H => l7Open H p3
    simp only [Port.enc] at eo3
    have hset6 : ∀ y : Blk, blkAt (List.set H6 H2.length (some y)) H2.length = some y := fun y => blkAt_set d6
    simp [b6, d6, ef, hset6, eo3]
    have bzs6 := (hne3 H6 (some ⟨43, .wr, [[.b p3.up, .b p3.has, .i .i64 p3.vec.root, .i .i64 p3.vec.cost, .i .i64 p3.vec.bridge, .i .i64 p3.vec.port, .i .i64 p3.hops, .i .i64 p3.left, .i .i64 p3.role, .i .i64 p3.wait, .b p3.opn]]⟩)).trans bz6
    have hcs6 := hcc6.set (id := H2.length) (by omega) (by omega) (some ⟨43, .wr, [[.b p3.up, .b p3.has, .i .i64 p3.vec.root, .i .i64 p3.vec.cost, .i .i64 p3.vec.bridge, .i .i64 p3.vec.port, .i .i64 p3.hops, .i .i64 p3.left, .i .i64 p3.role, .i .i64 p3.wait, .b p3.opn]]⟩)
    refine stpL_runs (l1Below hcs6.2 3) ?_
    rintro _ H7 ⟨⟨r, rfl, -⟩, hto7⟩
    have bz7 := hto7.1.blk bzs6 (by simp; omega)
    have dz7 := blkAt_len bz7
    have et := fun H => specTurn H ({ p3 with opn := openBy p3.role p3.wait } : Port) (IntKind.i64.wrap (1 + r))
    simp only [Port.enc] at et
    simp [et, bz7, dz7]
    refine fin _ _ (turnP ({ p3 with opn := openBy p3.role p3.wait } : Port) (IntKind.i64.wrap (1 + r))) ?_ (blkAt_set dz7) ((hcs6.next hto7).set (by omega) (by omega) _)
    simp

theorem l7Draw {H : Heap} {c n : Nat} (hc : Cur H c n) : Runs env 143 [.ptr c 0 0] H fun v H' => (∃ x : Port, v = .agg x.enc) ∧ CurTo H H' c n := by
  have hcl := hc.lt
  refine Runs.walk ok143 Try.func143 rfl (by simp [Try.f143]) fun Q hQ => ?_
  simp only [Try.f143, strip, stripL, stripI, stripG, chkT, tagsB, tagsL, tagD, addT, tagA, lookN, tagOp, elmT, ty22, ty24, ty33, ty40, ty44, ty54, ty55, ty63, ty171, ty175, ty176, ty183, Nat.reduceEqDiff, if_false, reduceIte, Option.getD_some, Option.getD_none, dstAt, dstOk, Nat.reduceLT, decide_true, if_true]
  have fin : ∀ (HF : Heap) (tm : Ab.T) (x : Port), tm 2 = .ptr H.length 0 0 → blkAt HF H.length = some ⟨43, .wr, [x.enc]⟩ → CurTo H HF c n → Q .ret tm HF := by
    intro HF tm x t2 hb hto
    refine hQ _ _ _ (by simp) ?_
    have hres : resT env.τ tm HF (Try.f143.results.toList) = some [W.agg x.enc] := by simp [Try.f143, t2, hb]
    rw [hres, optK_some]
    exact ⟨⟨x, rfl⟩, hto.leave hc _⟩
  have hcX := hc.app [some ⟨43, .wr, [[.b false, .b false, .i .i64 0, .i .i64 0, .i .i64 0, .i .i64 0, .i .i64 0, .i .i64 0, .i .i64 0, .i .i64 0, .b false]]⟩]
  have bzX : blkAt (H ++ [some ⟨43, .wr, [[.b false, .b false, .i .i64 0, .i .i64 0, .i .i64 0, .i .i64 0, .i .i64 0, .i .i64 0, .i .i64 0, .i .i64 0, .b false]]⟩]) H.length = some ⟨43, .wr, [[.b false, .b false, .i .i64 0, .i .i64 0, .i .i64 0, .i .i64 0, .i .i64 0, .i .i64 0, .i .i64 0, .i .i64 0, .b false]]⟩ := by simp
  have hlX : (H ++ [some ⟨43, .wr, [[.b false, .b false, .i .i64 0, .i .i64 0, .i .i64 0, .i .i64 0, .i .i64 0, .i .i64 0, .i .i64 0, .i .i64 0, .b false]]⟩] : Heap).length = H.length + 1 := by simp
  simp
  refine stpL_runs (l7DrawRight hcX) ?_
  rintro _ H1 ⟨⟨x, rfl⟩, hto1⟩
  have bz1 := hto1.1.blk bzX (by simp; omega)
  have dz1 := blkAt_len bz1
  have hcc1 := hto1.base
  have hl1 := hto1.len
  rw [hlX] at hl1
  simp [Port.enc]
  have hcM := hto1.2.app [some ⟨43, .wr, [[.b x.up, .b x.has, .i .i64 x.vec.root, .i .i64 x.vec.cost, .i .i64 x.vec.bridge, .i .i64 x.vec.port, .i .i64 x.hops, .i .i64 x.left, .i .i64 x.role, .i .i64 x.wait, .b x.opn]]⟩]
  refine stpL_runs (l1Below hcM 12) ?_
  rintro _ H2 ⟨⟨k, rfl, -⟩, hto2⟩
  have b3 : blkAt H2 H1.length = some ⟨43, .wr, [[.b x.up, .b x.has, .i .i64 x.vec.root, .i .i64 x.vec.cost, .i .i64 x.vec.bridge, .i .i64 x.vec.port, .i .i64 x.hops, .i .i64 x.left, .i .i64 x.role, .i .i64 x.wait, .b x.opn]]⟩ := hto2.1.blk (by simp) (by simp; omega)
  have bz2 := hto2.1.blk (blkAt_app bz1 _) (by simp; omega)
  have d3 := blkAt_len b3
  have dz2 := blkAt_len bz2
  have hcc2 := hcc1.next hto2.base
  have hne3 : ∀ (Y : Heap) (y : Option Blk), blkAt (List.set Y H1.length y) H.length = blkAt Y H.length := fun Y y => blkAt_set_ne (by omega)
  have hne4 : ∀ (Y : Heap) (y : Blk), H1.length < Y.length → blkAt (List.set Y H1.length (some y)) H1.length = some y := fun Y y h => blkAt_set h
  by_cases c0 : k = 0
  · simp [c0]
    simp [b3, d3, bz2, dz2, hne3, hne4]
    refine fin _ _ ⟨!x.up, x.has, x.vec, x.hops, x.left, x.role, x.wait, x.opn⟩ ?_ (blkAt_set (Nat.lt_of_lt_of_eq dz2 (List.length_set).symm)) ((hcc2.set (by omega) (by omega) _).set (by omega) (by omega) _)
    simp
  by_cases c1 : k = 1
  · simp [c1]
    refine stpL_runs (l6Draw hto2.2) ?_
    rintro _ H3 ⟨⟨y, rfl⟩, hto3⟩
    have b33 := hto3.1.blk b3 (by simp; omega)
    have bz3 := hto3.1.blk bz2 (by simp; omega)
    have d33 := blkAt_len b33
    have dz3 := blkAt_len bz3
    have hcc3 := hcc2.next hto3
    simp [b33, d33, bz3, dz3, hne3, hne4, Vec.enc]
    refine fin _ _ ⟨x.up, x.has, y, x.hops, x.left, x.role, x.wait, x.opn⟩ ?_ (blkAt_set (Nat.lt_of_lt_of_eq dz3 (List.length_set).symm)) ((hcc3.set (by omega) (by omega) _).set (by omega) (by omega) _)
    simp
  by_cases c2 : k = 2
  · simp [c2]
    have hcL := hto2.2.app [some ⟨3, .wr, [encI 0, encI 1, encI 3, encI 4]⟩]
    simp only [encI] at hcL
    refine stpL_runs (l1PickInt (xs := [0, 1, 3, 4]) hcL (Sl.of (by simp [encI])) (by simp) (by simp)) ?_
    rintro _ H3 ⟨⟨y, rfl, -⟩, hto3⟩
    have hto3 := hto3.base
    have b33 := hto3.1.blk b3 (by simp; omega)
    have bz3 := hto3.1.blk bz2 (by simp; omega)
    have d33 := blkAt_len b33
    have dz3 := blkAt_len bz3
    have hcc3 := hcc2.next hto3
    simp [b33, d33, bz3, dz3, hne3, hne4, Vec.enc]
    refine fin _ _ ⟨x.up, x.has, x.vec, x.hops, y, x.role, x.wait, x.opn⟩ ?_ (blkAt_set (Nat.lt_of_lt_of_eq dz3 (List.length_set).symm)) ((hcc3.set (by omega) (by omega) _).set (by omega) (by omega) _)
    simp
  by_cases c3 : k = 3
  · simp [c3]
    refine stpL_runs (l1Below hto2.2 6) ?_
    rintro _ H3 ⟨⟨y, rfl, -⟩, hto3⟩
    have b33 := hto3.1.blk b3 (by simp; omega)
    have bz3 := hto3.1.blk bz2 (by simp; omega)
    have d33 := blkAt_len b33
    have dz3 := blkAt_len bz3
    have hcc3 := hcc2.next hto3
    simp [b33, d33, bz3, dz3, hne3, hne4, Vec.enc]
    refine fin _ _ ⟨x.up, x.has, x.vec, x.hops, x.left, IntKind.i64.wrap (y - 1), x.wait, x.opn⟩ ?_ (blkAt_set (Nat.lt_of_lt_of_eq dz3 (List.length_set).symm)) ((hcc3.set (by omega) (by omega) _).set (by omega) (by omega) _)
    simp
  by_cases c4 : k = 4
  · simp [c4]
    simp [b3, d3, bz2, dz2, hne3, hne4]
    refine fin _ _ ⟨x.up, x.has, x.vec, x.hops, x.left, x.role, x.wait, !x.opn⟩ ?_ (blkAt_set (Nat.lt_of_lt_of_eq dz2 (List.length_set).symm)) ((hcc2.set (by omega) (by omega) _).set (by omega) (by omega) _)
    simp
  by_cases c5 : k = 5
  · simp [c5]
    have hcL := hto2.2.app [some ⟨3, .wr, [encI (-1), encI 4, encI 5]⟩]
    simp only [encI] at hcL
    refine stpL_runs (l1PickInt (xs := [(-1), 4, 5]) hcL (Sl.of (by simp [encI])) (by simp) (by simp)) ?_
    rintro _ H3 ⟨⟨y, rfl, -⟩, hto3⟩
    have hto3 := hto3.base
    have b33 := hto3.1.blk b3 (by simp; omega)
    have bz3 := hto3.1.blk bz2 (by simp; omega)
    have d33 := blkAt_len b33
    have dz3 := blkAt_len bz3
    have hcc3 := hcc2.next hto3
    simp [b33, d33, bz3, dz3, hne3, hne4, Vec.enc]
    refine fin _ _ ⟨x.up, x.has, x.vec, x.hops, x.left, x.role, y, x.opn⟩ ?_ (blkAt_set (Nat.lt_of_lt_of_eq dz3 (List.length_set).symm)) ((hcc3.set (by omega) (by omega) _).set (by omega) (by omega) _)
    simp
  simp [c0, c1, c2, c3, c4, c5, b3, d3, bz2, dz2]
  refine fin _ _ ⟨_, _, ⟨_, _, _, _⟩, _, _, _, _, _⟩ ?_ (blkAt_set dz2) (hcc2.set (by omega) (by omega) _)
  simp

theorem l8DrawIn {H : Heap} {c n : Nat} (hc : Cur H c n) : Runs env 144 [.ptr c 0 0] H fun v H' => (∃ x : In, v = .agg x.enc) ∧ CurTo H H' c n := by
  have hcl := hc.lt
  refine Runs.walk ok144 Try.func144 rfl (by simp [Try.f144]) fun Q hQ => ?_
  simp only [Try.f144, strip, stripL, stripI, stripG, chkT, tagsB, tagsL, tagD, addT, tagA, lookN, tagOp, elmT, ty22, ty24, ty33, ty40, ty44, ty54, ty55, ty63, ty171, ty175, ty176, ty183, Nat.reduceEqDiff, if_false, reduceIte, Option.getD_some, Option.getD_none, dstAt, dstOk, Nat.reduceLT, decide_true, if_true]
  have fin : ∀ (HF : Heap) (tm : Ab.T) (x : In), tm 2 = .ptr H.length 0 0 → blkAt HF H.length = some ⟨30, .wr, [x.enc]⟩ → CurTo H HF c n → Q .ret tm HF := by
    intro HF tm x t2 hb hto
    refine hQ _ _ _ (by simp) ?_
    have hres : resT env.τ tm HF (Try.f144.results.toList) = some [W.agg x.enc] := by simp [Try.f144, t2, hb]
    rw [hres, optK_some]
    exact ⟨⟨x, rfl⟩, hto.leave hc _⟩
  have hcX := hc.app [some ⟨30, .wr, [[.i .i64 0, .i .i64 0, .i .i64 0, .i .i64 0, .i .i64 0, .i .i64 0, .i .i64 0, .b false]]⟩]
  have bzX : blkAt (H ++ [some ⟨30, .wr, [[.i .i64 0, .i .i64 0, .i .i64 0, .i .i64 0, .i .i64 0, .i .i64 0, .i .i64 0, .b false]]⟩]) H.length = some ⟨30, .wr, [[.i .i64 0, .i .i64 0, .i .i64 0, .i .i64 0, .i .i64 0, .i .i64 0, .i .i64 0, .b false]]⟩ := by simp
  have hlX : (H ++ [some ⟨30, .wr, [[.i .i64 0, .i .i64 0, .i .i64 0, .i .i64 0, .i .i64 0, .i .i64 0, .i .i64 0, .b false]]⟩] : Heap).length = H.length + 1 := by simp
  simp
  refine stpL_runs (l1Below hcX 4) ?_
  rintro _ H1 ⟨⟨p, rfl, -⟩, hto1⟩
  have bz1 := hto1.1.blk bzX (by simp; omega)
  have hcc1 := hto1.base
  have hl1 := hto1.len
  rw [hlX] at hl1
  simp
  refine stpL_runs (l1Below hto1.2 4) ?_
  rintro _ H2 ⟨⟨k, rfl, -⟩, hto2⟩
  have bz2 := hto2.1.blk bz1 (by simp; omega)
  have dz2 := blkAt_len bz2
  have hcc2 := hcc1.next hto2
  by_cases c0 : k = 0
  · simp [c0, bz2, dz2]
    refine fin _ _ ⟨_, _, ⟨_, _, _, _⟩, _, _⟩ ?_ (blkAt_set dz2) (hcc2.set (by omega) (by omega) _)
    simp
  by_cases c1 : k = 1
  · simp [c1]
    refine stpL_runs (l1Once hto2.2 3) ?_
    rintro _ H3 ⟨⟨b, rfl⟩, hto3⟩
    have bz3 := hto3.1.blk bz2 (by simp; omega)
    have dz3 := blkAt_len bz3
    simp [bz3, dz3]
    refine fin _ _ ⟨_, _, ⟨_, _, _, _⟩, _, _⟩ ?_ (blkAt_set dz3) ((hcc2.next hto3).set (by omega) (by omega) _)
    simp
  simp [c0, c1]
  refine stpL_runs (l6DrawRight hto2.2) ?_
  rintro _ H3 ⟨⟨v, rfl⟩, hto3⟩
  have bz3 := hto3.1.blk bz2 (by simp; omega)
  simp
  refine stpL_runs (l1Below hto3.2 4) ?_
  rintro _ H4 ⟨⟨h, rfl, -⟩, hto4⟩
  have bz4 := hto4.1.blk bz3 (by simp; omega)
  have dz4 := blkAt_len bz4
  simp [bz4, dz4, Vec.enc]
  refine fin _ _ ⟨_, _, ⟨_, _, _, _⟩, _, _⟩ ?_ (blkAt_set dz4) (((hcc2.next hto3).next hto4).set (by omega) (by omega) _)
  simp

theorem l8DrawBent {H : Heap} {c n : Nat} (hc : Cur H c n) : Runs env 85 [.ptr c 0 0] H fun v H' => (∃ x : In, v = .agg x.enc) ∧ CurTo H H' c n := by
  have hcl := hc.lt
  refine Runs.walk ok85 Try.func85 rfl (by simp [Try.f85]) fun Q hQ => ?_
  simp only [Try.f85, strip, stripL, stripI, stripG, chkT, tagsB, tagsL, tagD, addT, tagA, lookN, tagOp, elmT, ty22, ty24, ty33, ty40, ty44, ty54, ty55, ty63, ty171, ty175, ty176, ty183, Nat.reduceEqDiff, if_false, reduceIte, Option.getD_some, Option.getD_none, dstAt, dstOk, Nat.reduceLT, decide_true, if_true]
  have fin : ∀ (HF : Heap) (tm : Ab.T) (x : In), tm 2 = .ptr H.length 0 0 → blkAt HF H.length = some ⟨30, .wr, [x.enc]⟩ → CurTo H HF c n → Q .ret tm HF := by
    intro HF tm x t2 hb hto
    refine hQ _ _ _ (by simp) ?_
    have hres : resT env.τ tm HF (Try.f85.results.toList) = some [W.agg x.enc] := by simp [Try.f85, t2, hb]
    rw [hres, optK_some]
    exact ⟨⟨x, rfl⟩, hto.leave hc _⟩
  have hcX := hc.app [some ⟨30, .wr, [[.i .i64 0, .i .i64 0, .i .i64 0, .i .i64 0, .i .i64 0, .i .i64 0, .i .i64 0, .b false]]⟩]
  have bzX : blkAt (H ++ [some ⟨30, .wr, [[.i .i64 0, .i .i64 0, .i .i64 0, .i .i64 0, .i .i64 0, .i .i64 0, .i .i64 0, .b false]]⟩]) H.length = some ⟨30, .wr, [[.i .i64 0, .i .i64 0, .i .i64 0, .i .i64 0, .i .i64 0, .i .i64 0, .i .i64 0, .b false]]⟩ := by simp
  have hlX : (H ++ [some ⟨30, .wr, [[.i .i64 0, .i .i64 0, .i .i64 0, .i .i64 0, .i .i64 0, .i .i64 0, .i .i64 0, .b false]]⟩] : Heap).length = H.length + 1 := by simp
  simp
  refine stpL_runs (l8DrawIn hcX) ?_
  rintro _ H1 ⟨⟨x, rfl⟩, hto1⟩
  have bz1 := hto1.1.blk bzX (by simp; omega)
  have dz1 := blkAt_len bz1
  have hcc1 := hto1.base
  have hl1 := hto1.len
  rw [hlX] at hl1
  simp [In.enc]
  have hcM := hto1.2.app [some ⟨30, .wr, [[.i .i64 x.kind, .i .i64 x.port, .i .i64 x.vec.root, .i .i64 x.vec.cost, .i .i64 x.vec.bridge, .i .i64 x.vec.port, .i .i64 x.hops, .b x.up]]⟩]
  refine stpL_runs (l1Below hcM 12) ?_
  rintro _ H2 ⟨⟨k, rfl, -⟩, hto2⟩
  have b3 : blkAt H2 H1.length = some ⟨30, .wr, [[.i .i64 x.kind, .i .i64 x.port, .i .i64 x.vec.root, .i .i64 x.vec.cost, .i .i64 x.vec.bridge, .i .i64 x.vec.port, .i .i64 x.hops, .b x.up]]⟩ := hto2.1.blk (by simp) (by simp; omega)
  have bz2 := hto2.1.blk (blkAt_app bz1 _) (by simp; omega)
  have d3 := blkAt_len b3
  have dz2 := blkAt_len bz2
  have hcc2 := hcc1.next hto2.base
  have hne3 : ∀ (Y : Heap) (y : Option Blk), blkAt (List.set Y H1.length y) H.length = blkAt Y H.length := fun Y y => blkAt_set_ne (by omega)
  have hne4 : ∀ (Y : Heap) (y : Blk), H1.length < Y.length → blkAt (List.set Y H1.length (some y)) H1.length = some y := fun Y y h => blkAt_set h
  by_cases c0 : k = 0
  · simp [c0]
    refine stpL_runs (l1Below hto2.2 6) ?_
    rintro _ H3 ⟨⟨y, rfl, -⟩, hto3⟩
    have b33 := hto3.1.blk b3 (by simp; omega)
    have bz3 := hto3.1.blk bz2 (by simp; omega)
    have d33 := blkAt_len b33
    have dz3 := blkAt_len bz3
    have hcc3 := hcc2.next hto3
    simp [b33, d33, bz3, dz3, hne3, hne4, Vec.enc]
    refine fin _ _ ⟨IntKind.i64.wrap (y - 1), x.port, x.vec, x.hops, x.up⟩ ?_ (blkAt_set (Nat.lt_of_lt_of_eq dz3 (List.length_set).symm)) ((hcc3.set (by omega) (by omega) _).set (by omega) (by omega) _)
    simp
  by_cases c1 : k = 1
  · simp [c1]
    have hcL := hto2.2.app [some ⟨3, .wr, [encI (-1), encI 3, encI 4]⟩]
    simp only [encI] at hcL
    refine stpL_runs (l1PickInt (xs := [(-1), 3, 4]) hcL (Sl.of (by simp [encI])) (by simp) (by simp)) ?_
    rintro _ H3 ⟨⟨y, rfl, -⟩, hto3⟩
    have hto3 := hto3.base
    have b33 := hto3.1.blk b3 (by simp; omega)
    have bz3 := hto3.1.blk bz2 (by simp; omega)
    have d33 := blkAt_len b33
    have dz3 := blkAt_len bz3
    have hcc3 := hcc2.next hto3
    simp [b33, d33, bz3, dz3, hne3, hne4, Vec.enc]
    refine fin _ _ ⟨x.kind, y, x.vec, x.hops, x.up⟩ ?_ (blkAt_set (Nat.lt_of_lt_of_eq dz3 (List.length_set).symm)) ((hcc3.set (by omega) (by omega) _).set (by omega) (by omega) _)
    simp
  by_cases c2 : k = 2
  · simp [c2]
    refine stpL_runs (l6Draw hto2.2) ?_
    rintro _ H3 ⟨⟨y, rfl⟩, hto3⟩
    have b33 := hto3.1.blk b3 (by simp; omega)
    have bz3 := hto3.1.blk bz2 (by simp; omega)
    have d33 := blkAt_len b33
    have dz3 := blkAt_len bz3
    have hcc3 := hcc2.next hto3
    simp [b33, d33, bz3, dz3, hne3, hne4, Vec.enc]
    refine fin _ _ ⟨x.kind, x.port, y, x.hops, x.up⟩ ?_ (blkAt_set (Nat.lt_of_lt_of_eq dz3 (List.length_set).symm)) ((hcc3.set (by omega) (by omega) _).set (by omega) (by omega) _)
    simp
  by_cases c3 : k = 3
  · simp [c3]
    have hcL := hto2.2.app [some ⟨3, .wr, [encI (-1), encI 8, encI 9]⟩]
    simp only [encI] at hcL
    refine stpL_runs (l1PickInt (xs := [(-1), 8, 9]) hcL (Sl.of (by simp [encI])) (by simp) (by simp)) ?_
    rintro _ H3 ⟨⟨y, rfl, -⟩, hto3⟩
    have hto3 := hto3.base
    have b33 := hto3.1.blk b3 (by simp; omega)
    have bz3 := hto3.1.blk bz2 (by simp; omega)
    have d33 := blkAt_len b33
    have dz3 := blkAt_len bz3
    have hcc3 := hcc2.next hto3
    simp [b33, d33, bz3, dz3, hne3, hne4, Vec.enc]
    refine fin _ _ ⟨x.kind, x.port, x.vec, y, x.up⟩ ?_ (blkAt_set (Nat.lt_of_lt_of_eq dz3 (List.length_set).symm)) ((hcc3.set (by omega) (by omega) _).set (by omega) (by omega) _)
    simp
  simp [c0, c1, c2, c3, b3, d3, bz2, dz2]
  refine fin _ _ ⟨_, _, ⟨_, _, _, _⟩, _, _⟩ ?_ (blkAt_set dz2) (hcc2.set (by omega) (by omega) _)
  simp

theorem l1New {H : Heap} {a : Option (Nat × Nat)} {bs : List Int} (hs : Sl H 5 a (bs.map encU)) (hn : bs.length ≤ 1048576) : Runs env 83 [.w (.lf (.sl a bs.length))] H fun v H' => ∃ c, v = .ptr c 0 0 ∧ Cur H' c bs.length ∧ H.length ≤ c ∧ Keep [] H H' := by
  have hw : IntKind.i64.wrap (27397 + (bs.length : Int)) = 27397 + (bs.length : Int) := wrap64 (by omega) (by omega)
  refine Runs.walk ok83 Try.func83 rfl (by simp [Try.f83]) fun Q hQ => ?_
  simp only [Try.f83, strip, stripL, stripI, stripG, chkT, tagsB, tagsL, tagD, addT, tagA, lookN, tagOp, elmT, ty22, ty24, ty33, ty40, ty44, ty54, ty55, ty63, ty171, ty175, ty176, ty183, Nat.reduceEqDiff, if_false, reduceIte, Option.getD_some, Option.getD_none, dstAt, dstOk, Nat.reduceLT, decide_true, if_true]
  have fin : ∀ (tm : Ab.T) (h : Int), tm 2 = .ptr H.length 0 0 → Q .ret tm (H ++ [some ⟨154, .wr, [[.sl a bs.length, .i .i64 0, .i .i64 h]]⟩]) := by
    intro tm h t2
    refine hQ _ _ _ (by simp) ?_
    simp [Try.f83, t2, leave, refFree]
    refine ⟨⟨a, 0, h, bs, by simp, by omega, by omega, rfl, hn, fun id r he hb => ?_, hs.app _⟩, Keep.app _ _ _⟩
    subst he
    exact hs.len (by simpa using hb)
  simp [builtinV, pureB, lenV, hw]
  refine wpS_loop (fun j tm H' => ∃ (i : Nat) (h : Int), i + j = bs.length ∧ tm 0 = .w (.lf (.sl a bs.length)) ∧ tm 3 = .int h ∧ tm 4 = .int i ∧ H' = H) bs.length (by rw [env_K]; omega) ⟨0, 27397 + bs.length, by simp, by simp, by simp, by simp, rfl⟩ ?_
  rintro j tm H1 hj ⟨i, h, hij, t0, t3, t4, rfl⟩ Q2 hn2 he2 hr2
  simp [t0, t3, t4, builtinV, pureB, lenV]
  have out : ∀ tm : Ab.T, tm 0 = .w (.lf (.sl a bs.length)) → tm 3 = .int h → Q2 (.exit 0) tm H1 := by
    intro tm s0 s3
    refine he2 _ _ _ ?_
    simp [s0, s3]
    refine fin _ h ?_
    simp
  by_cases hc1 : (i : Int) < bs.length
  · have hk : i < bs.length := by omega
    by_cases hc2 : (i : Int) < 4000
    · obtain ⟨id3, r3, bl3, rfl, hb3, hbe3, hrow3⟩ := hs i _ (by rw [List.getElem?_map, List.getElem?_eq_getElem hk]; rfl)
      have hid3 := blkAt_len hb3
      have hw2 : IntKind.i64.wrap ((i : Int) + 1) = (i : Int) + 1 := wrap64 (by omega) (by omega)
      have hc2' : i < 4000 := by omega
      simp [hc1, hk, hc2, hc2', t0, t3, t4, hb3, hid3, hbe3, hrow3, indexAddrV, elemIs, encU, binV, binInt, cmpI, arI, IntKind.bits, convV, hw2]
      refine hn2 (j - 1) _ _ (by omega) ⟨i + 1, _, by omega, by simp [t0], by simp; rfl, by simp, rfl⟩
    · have hc2' : ¬ i < 4000 := by omega
      simp [hc1, hk, hc2, hc2', t0, t3, t4]
      exact out _ (by simp [t0]) (by simp [t3])
  · have hk : ¬ i < bs.length := by omega
    simp [hc1, hk, t0, t3, t4]
    exact out _ (by simp [t0]) (by simp [t3])

def BrSt (H H' : Heap) (c n K m : Nat) : Prop := ∃ (l : List Lf) (b : Bridge) (fp : List Nat), blkAt H' K = some ⟨26, .wr, [l]⟩ ∧ IsBridge H' l b fp ∧ (∀ k ∈ fp, H.length + 1 ≤ k ∧ k ≠ K) ∧ b.ports.length = m ∧ CurTo H H' c n ∧ blkAt H' H.length = some ⟨26, .wr, [[.i .i64 0, .sl none 0]]⟩
theorem BrSt.next {H H1 H2 : Heap} {c n K m : Nat} (h : BrSt H H1 c n K m) (h2 : CurTo H1 H2 c n) (hc : c < H.length) (hK : H.length < K) : BrSt H H2 c n K m := by
  obtain ⟨l, b, fp, h3, h4, h5, h6, h7, h8⟩ := h
  exact ⟨l, b, fp, h2.1.blk h3 (by simp; omega), h4.keep h2.1 (fun k hk hk2 => by have := h5 k hk; simp at hk2; omega), h5, h6, h7.next h2, h2.1.blk h8 (by simp; omega)⟩
theorem l8DrawRight {H : Heap} {c n : Nat} (hc : Cur H c n) : Runs env 142 [.ptr c 0 0] H fun v H' => (∃ (l : List Lf) (b : Bridge) (fp : List Nat), v = .agg l ∧ IsBridge H' l b fp ∧ 1 ≤ b.ports.length ∧ b.ports.length ≤ 4 ∧ ∀ i ∈ fp, H.length ≤ i) ∧ CurTo H H' c n := by
  have hcl := hc.lt
  refine Runs.walk ok142 Try.func142 rfl (by simp [Try.f142]) fun Q hQ => ?_
  simp only [Try.f142, strip, stripL, stripI, stripG, chkT, tagsB, tagsL, tagD, addT, tagA, lookN, tagOp, elmT, ty22, ty24, ty33, ty40, ty44, ty54, ty55, ty63, ty171, ty175, ty176, ty183, Nat.reduceEqDiff, if_false, reduceIte, Option.getD_some, Option.getD_none, dstAt, dstOk, Nat.reduceLT, decide_true, if_true]
  have hcX := hc.app [some ⟨26, .wr, [[.i .i64 0, .sl none 0]]⟩]
  have bzX : blkAt (H ++ [some ⟨26, .wr, [[.i .i64 0, .sl none 0]]⟩]) H.length = some ⟨26, .wr, [[.i .i64 0, .sl none 0]]⟩ := by simp
  have hlX : (H ++ [some ⟨26, .wr, [[.i .i64 0, .sl none 0]]⟩] : Heap).length = H.length + 1 := by simp
  simp
  refine stpL_runs (l1Below hcX 6) ?_
  rintro _ H1 ⟨⟨x, rfl, hx0, hx1, -⟩, hto1⟩
  simp
  refine stpL_runs (l1Below hto1.2 4) ?_
  rintro _ H2 ⟨⟨y, rfl, hy0, hy1, -⟩, hto2⟩
  have hto := hto1.next hto2
  have bz2 := hto.1.blk bzX (by simp; omega)
  have hl2 := hto.len
  rw [hlX] at hl2
  have hcc2 := hto.base
  have w1 : IntKind.i64.wrap (1 + x) = 1 + x := wrap64 (by omega) (by omega)
  have w2 : IntKind.i64.wrap (1 + y) = 1 + y := wrap64 (by omega) (by omega)
  simp [w1, w2]
  refine stpL_runs (specBridgeNew _ _ _) ?_
  rintro _ _ ⟨l, fp, rfl, ob, ⟨⟨G3, rfl⟩, hfp⟩⟩
  have hbn := bridgeNew_yes (show (bridgeNew (1 + x) (1 + y)).2 = true by unfold bridgeNew; rw [if_pos (by simp; omega)])
  have hL := ob.len
  have hT : l.take l.length = l := List.take_length
  rw [hL] at hT
  have hltb := ob.lt
  obtain ⟨m, hm⟩ : ∃ m : Nat, m = (1 + y).toNat := ⟨_, rfl⟩
  have hm4 : 1 ≤ m ∧ m ≤ 4 := by omega
  simp [hL, hT]
  obtain ⟨K, hK⟩ : ∃ K, K = H2.length + G3.length := ⟨_, rfl⟩
  have hKl : H.length < K := by omega
  have st0 : BrSt H (H2 ++ (G3 ++ [some ⟨26, .wr, [l]⟩])) c n K m := by
    have ob' := ob.app [some ⟨26, .wr, [l]⟩]
    rw [List.append_assoc] at ob'
    refine ⟨l, _, fp, by rw [hK]; simp, ob', fun k hk => ?_, by rw [hbn.2.2]; simp [hm], hcc2.app _, blkAt_app bz2 _⟩
    have a1 := hfp k hk
    have a2 := hltb k hk
    simp only [List.length_append] at a2
    omega
  rw [← hK]
  obtain ⟨H3, hH3⟩ : ∃ H3 : Heap, H3 = H2 ++ (G3 ++ [some ⟨26, .wr, [l]⟩]) := ⟨_, rfl⟩
  rw [← hH3] at st0 ⊢
  clear hH3 hK ob hfp hltb hL hT
  have ret : ∀ (HF : Heap) (tm : Ab.T), tm 2 = .ptr H.length 0 0 → (∃ (l : List Lf) (b : Bridge) (fp : List Nat), blkAt HF H.length = some ⟨26, .wr, [l]⟩ ∧ IsBridge HF l b fp ∧ (∀ k ∈ fp, H.length ≤ k) ∧ b.ports.length = m ∧ CurTo H HF c n) → Q .ret tm HF := by
    rintro HF tm t2 ⟨l, b, fp, h1, h2, h3, h4, h5⟩
    have hL := h2.len
    have hT : l.take l.length = l := List.take_length
    rw [hL] at hT
    refine hQ _ _ _ (by simp) ?_
    have hres : resT env.τ tm HF (Try.f142.results.toList) = some [W.agg l] := by simp [Try.f142, t2, h1, hL, hT]
    rw [hres, optK_some]
    refine ⟨?_, h5.leave hc _⟩
    rcases leave_opt H HF [W.agg l] with e | ⟨e, hr⟩ <;> rw [e]
    · exact ⟨l, b, fp, rfl, h2, by omega, by omega, h3⟩
    · exact ⟨l, b, [], rfl, h2.free (by simpa using hr) H, by omega, by omega, by simp⟩
  -- a reaction
  have act : ∀ (HA : Heap) (l : List Lf) (b : Bridge) (fp : List Nat) (x : In), blkAt HA K = some ⟨26, .wr, [l]⟩ → IsBridge HA l b fp → (∀ k ∈ fp, H.length + 1 ≤ k ∧ k ≠ K) → b.ports.length = m → CurTo H HA c n → blkAt HA H.length = some ⟨26, .wr, [[.i .i64 0, .sl none 0]]⟩ → l.length = 2 →
      Runs env 12 [.agg l, .agg x.enc] HA fun v H' => ∃ l' q G, v = .tup [.agg l', .lf q] ∧ l'.length = 2 ∧ l'.take 2 = l' ∧ H' = HA ++ G ∧ BrSt H (H'.set K (some ⟨26, .wr, [l']⟩)) c n K m := by
    intro HA l b fp x h1 h2 h3 h4 h5 h6 h7
    refine (specReact h2.rd (by unfold Bridge.sz; omega) x).mono ?_
    rintro _ _ ⟨l', f1, q, f2, rfl, o1, o2, ⟨⟨G, rfl⟩, hf⟩, hd⟩
    have hl' := o1.len
    refine ⟨l', q, G, rfl, hl', by rw [← hl']; exact List.take_length, rfl, l', _, f1, blkAt_set (by have := blkAt_len h1; simp; omega), o1.keep (Keep.set _ _) (fun k hk hk2 => ?_), fun k hk => ?_, by rw [reactB_len]; exact h4, (h5.app G).set (by omega) (by omega) _, by rw [blkAt_set_ne (by omega)]; exact blkAt_app h6 G⟩
    · have := hf k (by simp [hk]); have := blkAt_len h1; simp at hk2; omega
    · have := hf k (by simp [hk]); have := blkAt_len h1; have := h5.len; omega
  refine wpS_loop (fun j tm H' => ∃ i : Nat, i + j = m ∧ tm 0 = .ptr c 0 0 ∧ tm 2 = .ptr H.length 0 0 ∧ tm 3 = .ptr K 0 0 ∧ tm 5 = .int i ∧ BrSt H H' c n K m) m (by rw [env_K]; omega) ⟨0, by simp, by simp, by simp, by simp, by simp, st0⟩ ?_
  rintro j tm H4 hj ⟨i, hij, t0, t2, t3, t5, st⟩ Q2 hn2 he2 hr2
  obtain ⟨l4, b4, fp4, k4, o4, hf4, hm4', hto4, bz4⟩ := st
  have d4 := blkAt_len k4
  have hL4 := o4.len
  have hT4 : l4.take l4.length = l4 := List.take_length
  rw [hL4] at hT4
  have hD4 : l4.drop 2 = [] := by rw [← hL4]; exact List.drop_length
  have hq : ∃ a4, l4 = [.i .i64 b4.id, .sl a4 m] := by
    obtain ⟨a4, rfl, -⟩ := o4
    exact ⟨a4, by simp [Bridge.enc, hm4']⟩
  obtain ⟨a4, hq4⟩ := hq
  have hd1 : List.take 1 l4.tail = [.sl a4 m] := by rw [hq4]; rfl
  simp [t0, t2, t3, t5, k4, d4, hL4, hd1, builtinV, pureB, lenV]
  have hw : IntKind.i64.wrap ((i : Int) + 1) = (i : Int) + 1 := wrap64 (by omega) (by omega)
  refine selS_intro (fun hc1 => ?_) (fun hc1 => ?_)
  · simp at hc1
    simp [t0]
    refine stpL_runs (l1Once hto4.2 4) ?_
    rintro _ H5 ⟨⟨b, rfl⟩, hto5⟩
    have st5 : BrSt H H5 c n K m := BrSt.next ⟨l4, b4, fp4, k4, o4, hf4, hm4', hto4, bz4⟩ hto5 hcl hKl
    cases b
    rotate_left
    · simp [t0, t2, t3, t5, hw]
      exact hn2 (j - 1) _ _ (by omega) ⟨i + 1, by omega, by simp [t0], by simp [t2], by simp [t3], by simp, st5⟩
    obtain ⟨l5, b5, fp5, k5, o5, hf5, hm5, hto5', bz5⟩ := st5
    have d5 := blkAt_len k5
    have hL5 := o5.len
    have hT5 : l5.take l5.length = l5 := List.take_length
    rw [hL5] at hT5
    have hD5 : l5.drop 2 = [] := by rw [← hL5]; exact List.drop_length
    have ha := act H5 l5 b5 fp5 ⟨3, i, ⟨0, 0, 0, 0⟩, 0, true⟩ k5 o5 hf5 hm5 hto5' bz5 hL5
    simp only [In.enc] at ha
    simp [t0, t2, t3, t5, k5, d5, hL5, hT5]
    refine stpL_runs ha ?_
    rintro _ _ ⟨l6, q6, G6, rfl, hL6, hT6, rfl, st6⟩
    have k6 := blkAt_app k5 G6
    have d6 : K < H5.length + G6.length := by omega
    simp [t3, k6, d6, hL5, hD5, hL6, hT6, t5, hw]
    exact hn2 (j - 1) _ _ (by omega) ⟨i + 1, by omega, by simp [t0], by simp [t2], by simp [t3], by simp, st6⟩
  · simp at hc1
    simp
    refine he2 _ _ _ ?_
    have stA : BrSt H H4 c n K m := ⟨l4, b4, fp4, k4, o4, hf4, hm4', hto4, bz4⟩
    simp [t0, t2, t3]
    refine wpS_loop (fun j tm H' => ∃ i : Nat, i + j = 9 ∧ tm 0 = .ptr c 0 0 ∧ tm 2 = .ptr H.length 0 0 ∧ tm 3 = .ptr K 0 0 ∧ tm 6 = .int i ∧ BrSt H H' c n K m) 9 (by rw [env_K]; omega) ⟨0, by simp, by simp [t0], by simp [t2], by simp [t3], by simp, stA⟩ ?_
    clear hn2 he2 hr2
    rintro j tm H4 hj ⟨i, hij, t0, t2, t3, t6, st⟩ Q2 hn2 he2 hr2
    simp [t0, t6]
    refine stpL_runs (l1Below (by obtain ⟨_, _, _, _, _, _, _, hh, _⟩ := st; exact hh.2) 10) ?_
    rintro _ H5 ⟨⟨w, rfl, hw0, hw1, -⟩, hto5⟩
    have hw9 := hw1 (by omega)
    have st5 := st.next hto5 hcl hKl
    obtain ⟨l5, b5, fp5, k5, o5, hf5, hm5, hto5', bz5⟩ := st5
    have d5 := blkAt_len k5
    have hL5 := o5.len
    have hT5 : l5.take l5.length = l5 := List.take_length
    rw [hL5] at hT5
    simp [t0, t6]
    refine selS_intro (fun hc2 => ?_) (fun hc2 => ?_)
    · simp at hc2
      have hwi : IntKind.i64.wrap ((i : Int) + 1) = (i : Int) + 1 := wrap64 (by omega) (by omega)
      simp [t0, t3, k5, d5, hL5, hT5]
      refine stpL_cur (l8DrawIn hto5'.2) hto5'.2 (fun v H' h => h.2) ?_
      rintro _ H6 ⟨⟨x6, rfl⟩, hto6⟩
      have st6 : BrSt H H6 c n K m := BrSt.next ⟨l5, b5, fp5, k5, o5, hf5, hm5, hto5', bz5⟩ hto6 hcl hKl
      have k6 := hto6.1.blk k5 (by simp; omega)
      have o6 := o5.keep hto6.1 (fun k hk hk2 => by have := hf5 k hk; simp at hk2; omega)
      have bz6 := hto6.1.blk bz5 (by simp; omega)
      have d6 := blkAt_len k6
      have hD5 : l5.drop 2 = [] := by rw [← hL5]; exact List.drop_length
      simp
      refine stpL_runs_f (act H6 l5 b5 fp5 x6 k6 o6 hf5 hm5 (hto5'.next hto6) bz6 hL5) (by rintro _ _ ⟨_, _, G, _, _, _, rfl, _⟩; exact ⟨G, rfl⟩) ?_
      rintro _ _ ⟨l7, q7, G7, rfl, hL7, hT7, rfl, st7⟩
      have k7 := blkAt_app k6 G7
      have d7 : K < H6.length + G7.length := by omega
      simp [t3, k7, d7, hL5, hD5, hL7, hT7, t6, hwi]
      exact hn2 (j - 1) _ _ (by omega) ⟨i + 1, by omega, by simp [t0], by simp [t2], by simp [t3], by simp, st7⟩
    · simp at hc2
      simp
      refine he2 _ _ _ ?_
      have dz5 := blkAt_len bz5
      simp [t2, t3, k5, d5, hL5, hT5, bz5, dz5]
      refine ret _ _ (by simp [t2]) ⟨l5, b5, fp5, blkAt_set dz5, o5.keep (Keep.set _ _) (fun k hk hk2 => by have := hf5 k hk; simp at hk2; omega), fun k hk => by have := hf5 k hk; omega, hm5, hto5'.set (by omega) (by omega) _⟩

theorem l8Draw {H : Heap} {c n : Nat} (hc : Cur H c n) : Runs env 84 [.ptr c 0 0] H fun v H' => (∃ (l : List Lf) (b : Bridge) (fp : List Nat), v = .agg l ∧ IsBridge H' l b fp ∧ 1 ≤ b.ports.length ∧ b.ports.length ≤ 6 ∧ ∀ i ∈ fp, H.length ≤ i) ∧ CurTo H H' c n := by
  have hcl := hc.lt
  refine Runs.walk ok84 Try.func84 rfl (by simp [Try.f84]) fun Q hQ => ?_
  simp only [Try.f84, strip, stripL, stripI, stripG, chkT, tagsB, tagsL, tagD, addT, tagA, lookN, tagOp, elmT, ty22, ty24, ty33, ty40, ty44, ty54, ty55, ty63, ty171, ty175, ty176, ty183, Nat.reduceEqDiff, if_false, reduceIte, Option.getD_some, Option.getD_none, dstAt, dstOk, Nat.reduceLT, decide_true, if_true]
  have hcX := hc.app [some ⟨26, .wr, [[.i .i64 0, .sl none 0]]⟩]
  have bzX : blkAt (H ++ [some ⟨26, .wr, [[.i .i64 0, .sl none 0]]⟩]) H.length = some ⟨26, .wr, [[.i .i64 0, .sl none 0]]⟩ := by simp
  have hlX : (H ++ [some ⟨26, .wr, [[.i .i64 0, .sl none 0]]⟩] : Heap).length = H.length + 1 := by simp
  have fin : ∀ (HF : Heap) (tm : Ab.T) (l : List Lf) (b : Bridge) (fp : List Nat), tm 2 = .ptr H.length 0 0 → H.length < HF.length → IsBridge HF l b fp → (∀ k ∈ fp, H.length < k) → 1 ≤ b.ports.length → b.ports.length ≤ 6 → CurTo H HF c n → Q .ret tm (HF.set H.length (some ⟨26, .wr, [l]⟩)) := by
    intro HF tm l b fp t2 hlt h2 h3 h4 h4' h5
    have hL := h2.len
    have hT : l.take l.length = l := List.take_length
    rw [hL] at hT
    refine hQ _ _ _ (by simp) ?_
    have hb : blkAt (HF.set H.length (some ⟨26, .wr, [l]⟩)) H.length = some ⟨26, .wr, [l]⟩ := blkAt_set hlt
    have hres : resT env.τ tm (HF.set H.length (some ⟨26, .wr, [l]⟩)) (Try.f84.results.toList) = some [W.agg l] := by simp [Try.f84, t2, hb, hL, hT]
    rw [hres, optK_some]
    refine ⟨?_, (h5.set (Nat.le_refl _) hcl _).leave hc _⟩
    have h2' := h2.keep (Keep.set (id := H.length) HF (some ⟨26, .wr, [l]⟩)) (fun k hk hk2 => by have := h3 k hk; simp at hk2; omega)
    rcases leave_opt H (HF.set H.length (some ⟨26, .wr, [l]⟩)) [W.agg l] with e | ⟨e, hr⟩ <;> rw [e]
    · exact ⟨l, b, fp, rfl, h2', h4, h4', fun k hk => by have := h3 k hk; omega⟩
    · exact ⟨l, b, [], rfl, h2'.free (by simpa using hr) H, h4, h4', by simp⟩
  simp
  refine stpL_runs (l8DrawRight hcX) ?_
  rintro _ H1 ⟨⟨l, b, fp, rfl, ob, hp1, hp4, hfp⟩, hto1⟩
  have bz1 := hto1.1.blk bzX (by simp; omega)
  have hcc1 := hto1.base
  have hl1 := hto1.len
  rw [hlX] at hl1
  rw [hlX] at hfp
  have hlt := ob.lt
  have hL := ob.len
  have hT : l.take l.length = l := List.take_length
  rw [hL] at hT
  have hD : l.drop 2 = [] := by rw [← hL]; exact List.drop_length
  obtain ⟨a, rfl, ow⟩ := ob
  simp [Bridge.enc]
  have hcM := hto1.2.app [some ⟨26, .wr, [[.i .i64 b.id, .sl a b.ports.length]]⟩]
  refine stpL_runs (l1Below hcM 8) ?_
  rintro _ H2 ⟨⟨k, rfl, -⟩, hto2⟩
  have b3 : blkAt H2 H1.length = some ⟨26, .wr, [[.i .i64 b.id, .sl a b.ports.length]]⟩ := hto2.1.blk (by simp) (by simp; omega)
  have bz2 := hto2.1.blk (blkAt_app bz1 _) (by simp; omega)
  have ow2 : Own H2 43 a (b.ports.map Port.enc) fp := (ow.app _).keep hto2.1 (fun k hk hk2 => by have := hfp k hk; simp at hk2; omega)
  have d3 := blkAt_len b3
  have dz2 := blkAt_len bz2
  have hcc2 := hcc1.next hto2.base
  have hne3 : ∀ (Y : Heap) (y : Option Blk), blkAt (List.set Y H1.length y) H.length = blkAt Y H.length := fun Y y => blkAt_set_ne (by omega)
  have hne4 : ∀ (Y : Heap) (y : Blk), H1.length < Y.length → blkAt (List.set Y H1.length (some y)) H1.length = some y := fun Y y h => blkAt_set h
  have hfl : ∀ k ∈ fp, H.length < k ∧ k < H1.length := fun k hk => by have := hfp k hk; have := hlt k hk; omega
  by_cases c0 : k = 0
  · simp [c0]
    have hcL := hto2.2.app [some ⟨3, .wr, [encI 0, encI 9, encI 10]⟩]
    simp only [encI] at hcL
    refine stpL_runs (l1PickInt (xs := [0, 9, 10]) hcL (Sl.of (by simp [encI])) (by simp) (by simp)) ?_
    rintro _ H3 ⟨⟨y, rfl, -⟩, hto3⟩
    have hto3 := hto3.base
    have b33 := hto3.1.blk b3 (by simp; omega)
    have bz3 := hto3.1.blk bz2 (by simp; omega)
    have d33 := blkAt_len b33
    have dz3 := blkAt_len bz3
    have ow3 := ow2.keep hto3.1 (fun k hk hk2 => by have := hfl k hk; simp at hk2; omega)
    have hcc3 := hcc2.next hto3
    simp [b33, d33, bz3, dz3, hne3, hne4]
    refine fin _ _ _ ⟨y, b.ports⟩ fp ?_ (by simpa using dz3) ⟨a, rfl, ow3.keep (Keep.set _ _) (fun k hk hk2 => by have := hfl k hk; simp at hk2; omega)⟩ (fun k hk => (hfl k hk).1) hp1 (by simp only; omega) (hcc3.set (by omega) (by omega) _)
    simp
  by_cases c1 : k = 1
  · simp [c1, b3, d3]
    refine stpL_cur (l7Draw hto2.2) hto2.2 (fun v H' h => h.2) ?_
    rintro _ H3 ⟨⟨y, rfl⟩, hto3⟩
    have b33 := hto3.1.blk b3 (by simp; omega)
    have bz3 := hto3.1.blk bz2 (by simp; omega)
    have d33 := blkAt_len b33
    have dz3 := blkAt_len bz3
    have ow3 := ow2.keep hto3.1 (fun k hk hk2 => by have := hfl k hk; simp at hk2; omega)
    have hcc3 := hcc2.next hto3
    obtain ⟨id, bl, rfl, rfl, hb, hbe, hbm, hpre⟩ := ow3.blk (by intro h; have := congrArg List.length h; simp at this; rw [this] at hp1; simp at hp1)
    have hidl := blkAt_len hb
    have hidf := hfl id (by simp)
    obtain ⟨tl, htl⟩ := hpre
    have hrow : bl.rows[0]? = some b.ports[0].enc := by rw [← htl, List.getElem?_append_left (by simp; omega), List.getElem?_map, List.getElem?_eq_getElem (by omega)]; rfl
    have hrl : 0 < bl.rows.length := (List.getElem?_eq_some_iff.1 hrow).1
    have hpI : (0 : Int) < b.ports.length := by omega
    have hp0 : 0 < b.ports.length := by omega
    have hsI : ∀ (y : Option Blk), blkAt (List.set H3 id y) H1.length = blkAt H3 H1.length := fun y => blkAt_set_ne (by omega)
    have hsH : ∀ (y : Option Blk), blkAt (List.set H3 id y) H.length = blkAt H3 H.length := fun y => blkAt_set_ne (by omega)
    simp [indexAddrV, elemIs, hb, hidl, hbe, hbm, hpI, hp0, hrow]
    simp only [Port.enc] at hrow
    simp [hrow, hbm, hsI, hsH, b33, d33, bz3, dz3, Port.enc]
    have os := ow3.set (row := y.enc) hb (i := 0) (by simp; omega)
    rw [hbe, hbm] at os
    refine fin _ _ _ ⟨b.id, b.ports.set 0 y⟩ [id] ?_ (by simpa using dz3) ⟨some (id, 0), by simp [Bridge.enc], by rw [List.map_set]; exact os⟩ (fun k hk => by simp at hk; omega) (by simpa using hp1) (by simp; omega) (hcc3.set (by omega) (by omega) _)
    simp
  by_cases c2 : k = 2
  · simp [c2, b3, d3]
    refine stpL_append (e := 43) (rows := b.ports.map Port.enc) (ys := [Port.z, Port.z]) (ow2.app _) (Sl.of (by simp [Port.z])) rfl rfl rfl (by simp) (by simp; omega) (by simp) rfl fun a'' H'' fp'' ho'' hk'' hf'' => ?_
    have k1 := hk''.base
    have b33 := k1.blk b3 (fun h => by have := hfl _ h; omega)
    have bz3 := k1.blk bz2 (fun h => by have := hfl _ h; omega)
    have d33 := blkAt_len b33
    have dz3 := blkAt_len bz3
    have hcc3 := hcc2.own k1 (fun i hi => by have := hfl i hi; omega) hcl
    have hf9 : ∀ k ∈ fp'', H.length < k ∧ k ≠ H1.length := fun k hk => by
      rcases hf'' k hk with h | h
      · have := hfl k h; omega
      · simp at h; omega
    simp [b33, d33, bz3, dz3, hne3, hne4]
    refine fin _ _ _ ⟨b.id, b.ports ++ [Port.zv, Port.zv]⟩ fp'' ?_ (by simpa using dz3) ⟨a'', by simp [Bridge.enc], by rw [List.map_append]; exact ho''.keep (Keep.set _ _) (fun k hk hk2 => by have := hf9 k hk; simp at hk2; omega)⟩ (fun k hk => (hf9 k hk).1) (by simp) (by simp; omega) (hcc3.set (by omega) (by omega) _)
    simp
  · simp [c0, c1, c2, b3, d3, bz2, dz2]
    refine fin _ _ _ b fp ?_ dz2 ⟨a, rfl, ow2⟩ (fun k hk => (hfl k hk).1) hp1 (by omega) hcc2
    simp

theorem u8R {x : Int} (h : (Lit.int .u8 x).wf = true) : 0 ≤ x ∧ x ≤ 255 := by
  simp only [Lit.wf, Bool.and_eq_true, decide_eq_true_eq] at h
  exact h
theorem atL {H : Heap} {a : Option (Nat × Nat)} {bs : List Int} (hs : Sl H 5 a (bs.map encU)) (hr : ∀ x ∈ bs, 0 ≤ x ∧ x ≤ 255) (hn : bs.length ≤ 1048576) : ∃ v : Int, 0 ≤ v ∧ v ≤ 255 ∧ run env 19 [.w (.lf (.sl a bs.length)), .int 1] H = some (.int v, H) := by
  by_cases h1 : 1 < bs.length
  · obtain ⟨id, r, bl, rfl, hbl, hbe, hrow⟩ := hs 1 _ (by rw [List.getElem?_map, List.getElem?_eq_getElem h1]; rfl)
    have hx := hr _ (List.getElem_mem h1)
    have hw : IntKind.i64.wrap bs[1] = bs[1] := wrap64 (by omega) (by omega)
    have h1I : (1 : Int) < bs.length := by omega
    have nid := blkAt_len hbl
    refine ⟨bs[1], hx.1, hx.2, ?_⟩
    refine run_walk ok19 Try.func19 rfl (by simp [Try.f19]) fun Q hQ => ?_
    simp only [Try.f19, strip, stripL, stripI, stripG, chkT, tagsB, tagsL, tagD, addT, tagA, lookN, tagOp, elmT, ty22, ty24, ty33, ty40, ty44, ty54, ty55, ty63, ty171, ty175, ty176, ty183, Nat.reduceEqDiff, if_false, reduceIte, Option.getD_some, Option.getD_none, dstAt, dstOk, Nat.reduceLT, decide_true, if_true]
    simp [builtinV, pureB, lenV, h1I, h1, indexAddrV, elemIs, hbl, nid, hbe, hrow, encU, convV, hw]
    refine hQ _ _ _ (by simp) ?_
    simp [Try.f19]
  · have h1I : ¬ (1 : Int) < bs.length := by omega
    have w0 : IntKind.i64.wrap 7 = 7 := wrap64 (by omega) (by omega)
    have w1 : IntKind.i64.wrap (7 + (bs.length : Int)) = 7 + bs.length := wrap64 (by omega) (by omega)
    refine ⟨(7 + (bs.length : Int)).tmod 256, Int.tmod_nonneg _ (by omega), by have := Int.tmod_lt_of_pos (7 + (bs.length : Int)) (show (0 : Int) < 256 by omega); omega, ?_⟩
    refine run_walk ok19 Try.func19 rfl (by simp [Try.f19]) fun Q hQ => ?_
    simp only [Try.f19, strip, stripL, stripI, stripG, chkT, tagsB, tagsL, tagD, addT, tagA, lookN, tagOp, elmT, ty22, ty24, ty33, ty40, ty44, ty54, ty55, ty63, ty171, ty175, ty176, ty183, Nat.reduceEqDiff, if_false, reduceIte, Option.getD_some, Option.getD_none, dstAt, dstOk, Nat.reduceLT, decide_true, if_true]
    simp [builtinV, pureB, lenV, h1I, h1, w0, w1]
    refine hQ _ _ _ (by simp) ?_
    simp [Try.f19, w0, w1]

theorem sameBridgeL {H : Heap} {l r : List Lf} {x y : Bridge} (h : RdBridge H l x) (h2 : RdBridge H r y) (hn : x.sz ≤ 1048576) : run env 13 [.agg l, .agg r] H = some (.bool (decide (x = y)), H) := by
  obtain ⟨a, rfl, ha⟩ := h
  obtain ⟨b, rfl, hb⟩ := h2
  have hn : x.ports.length ≤ 1048576 := hn
  refine run_walk ok13 Try.func13 rfl (by simp [Try.f13]) fun Q hQ => ?_
  simp only [Try.f13, strip, stripL, stripI, stripG, chkT, tagsB, tagsL, tagD, addT, tagA, lookN, tagOp, elmT, ty22, ty24, ty33, ty40, ty44, ty54, ty55, ty63, ty171, ty175, ty176, ty183, Nat.reduceEqDiff, if_false, reduceIte, Option.getD_some, Option.getD_none, dstAt, dstOk, Nat.reduceLT, decide_true, if_true]
  simp [Bridge.enc, builtinV, pureB, lenV]
  have bad : x ≠ y → ∀ tm H', (∃ G, H' = H ++ G) → tm 4 = .bool false → Q .ret tm H' := by
    rintro hx tm _ ⟨G, rfl⟩ h4
    refine hQ _ _ _ (by simp) ?_
    simp [Try.f13, h4, hx]
  refine gdL_f (fun hd => ?_) (fun hd => ?_)
  · simp [hd]
    refine bad (fun hx => by subst hx; simp at hd) _ _ ⟨_, rfl⟩ (by simp)
  simp [hd, builtinV, pureB, lenV]
  refine selS_intro (fun hl => ?_) (fun hl => ?_)
  · simp
    refine bad (fun hx => by subst hx; simp at hl) _ _ ⟨_, rfl⟩ (by simp)
  simp at hl hd
  simp
  refine wpS_loop (fun j tm H' => ∃ i, i + j = x.ports.length ∧ tm 2 = .ptr H.length 0 0 ∧ tm 3 = .ptr (H.length + 1) 0 0 ∧ tm 5 = .int i ∧ H' = H ++ [some ⟨26, .wr, [x.enc a]⟩, some ⟨26, .wr, [y.enc b]⟩] ∧ x.ports.take i = y.ports.take i) x.ports.length (by rw [env_K]; omega) ⟨0, by simp, by simp, by simp, by simp, by simp [Bridge.enc], by simp⟩ ?_
  rintro j tm H' hj ⟨i, hij, t2, t3, t5, rfl, heq⟩ Q' hn' he' hr'
  simp [t2, t3, t5, Bridge.enc, builtinV, pureB, lenV]
  refine selS_intro (fun hc => ?_) (fun hc => ?_)
  · simp at hc
    have hc2 : i < y.ports.length := by omega
    obtain ⟨id, r, bl, rfl, hbl, hbe, hrow⟩ := ha i _ (by simp [hc]; rfl)
    obtain ⟨id2, r2, bl2, rfl, hbl2, hbe2, hrow2⟩ := hb i _ (by simp [hc2]; rfl)
    have hid := blkAt_len hbl
    have hid2 := blkAt_len hbl2
    have g4 : IntKind.i64.wrap ((i : Int) + 1) = (i : Int) + 1 := wrap64 (by omega) (by omega)
    simp [t2, t3, t5, indexAddrV, elemIs, hid, hid2, hbl, hbe, hbl2, hbe2, hc, hc2, hrow, hrow2, Port.enc]
    refine selS_intro (fun hd2 => ?_) (fun hd2 => ?_)
    · simp
      refine hr' _ _ ?_
      simp
      refine bad (fun hx => by subst hx; simp at hd2) _ _ ⟨_, rfl⟩ (by simp)
    · have hxy : x.ports[i] = y.ports[i] := by
        refine Port.enc_inj ?_
        simpa [Port.enc] using hd2
      simp [t2, t3, t5, g4]
      exact hn' (j - 1) _ _ (by omega) ⟨i + 1, by omega, by simp [t2], by simp [t3], by simp, by simp [Bridge.enc], by rw [List.take_add_one, List.take_add_one, heq]; simp [hc, hc2, hxy]⟩
  · simp at hc
    simp [t2, t3, t5]
    refine he' _ _ _ ?_
    simp
    refine hQ _ _ _ (by simp) ?_
    have hp : x.ports = y.ports := by
      rw [List.take_of_length_le (by omega), List.take_of_length_le (by omega)] at heq
      exact heq
    have : x = y := by
      obtain ⟨x1, x2⟩ := x
      obtain ⟨y1, y2⟩ := y
      simp_all
    simp [Try.f13, this]

theorem l9DrawList {H : Heap} {c n : Nat} (hc : Cur H c n) : Runs env 98 [.ptr c 0 0] H fun v H' => (∃ (q : Lf) (xs : List In) (fp : List Nat), v = .w (.lf q) ∧ IsInS H' q xs fp ∧ xs.length ≤ 6 ∧ ∀ i ∈ fp, H.length ≤ i) ∧ CurTo H H' c n := by
  have hcl := hc.lt
  refine Runs.walk ok98 Try.func98 rfl (by simp [Try.f98]) fun Q hQ => ?_
  simp only [Try.f98, strip, stripL, stripI, stripG, chkT, tagsB, tagsL, tagD, addT, tagA, lookN, tagOp, elmT, ty22, ty24, ty33, ty40, ty44, ty54, ty55, ty63, ty171, ty175, ty176, ty183, Nat.reduceEqDiff, if_false, reduceIte, Option.getD_some, Option.getD_none, dstAt, dstOk, Nat.reduceLT, decide_true, if_true]
  obtain ⟨Y, hY⟩ : ∃ Y : Heap, Y = H ++ [some ⟨30, .wr, []⟩] := ⟨_, rfl⟩
  have bD : blkAt Y H.length = some ⟨30, .wr, []⟩ := by rw [hY]; simp
  have hcY : CurTo H Y c n := by rw [hY]; exact (CurTo.refl hc).app _
  have oD : IsInS Y (.sl (some (H.length, 0)) 0) [] [H.length] := ⟨some (H.length, 0), rfl, Own.of bD⟩
  simp
  rw [← hY]
  clear hY
  refine wpS_loop (fun j tm A => ∃ (i : Nat) (aa : Option (Nat × Nat)) (ds : List In) (fd : List Nat), i + j = 6 ∧ ds.length = i ∧ tm 0 = .ptr c 0 0 ∧ tm 3 = .w (.lf (.sl aa ds.length)) ∧ tm 4 = .int i ∧ CurTo H A c n ∧ Own A 30 aa (ds.map In.enc) fd ∧ ∀ k ∈ fd, H.length ≤ k) 6 (by rw [env_K]; omega) ⟨0, some (H.length, 0), [], [H.length], by simp, rfl, by simp, by simp, by simp, hcY, by obtain ⟨_, e, o⟩ := oD; simp at e; subst e; exact o, by simp⟩ ?_
  rintro j tm A hj ⟨i, aa, ds, fd, hij, hdl, t0, t3, t4, hcA, oq, hfd⟩ Q2 hn2 he2 hr2
  simp [t0, t4]
  refine stpL_runs (l1Below hcA.2 6) ?_
  rintro _ B ⟨⟨u, rfl, hu0, hu1, -⟩, htoB⟩
  have hu := hu1 (by omega)
  have hcB := hcA.next htoB
  have hne : ∀ (m : Nat), H.length ≤ m → m ∉ [c] := fun m hm h => by simp at h; omega
  have oqB := oq.keep htoB.1 (fun k hk => hne k (hfd k hk))
  simp [t0, t3, t4]
  refine selS_intro (fun hc2 => ?_) (fun hc2 => ?_)
  · simp at hc2
    have hw : IntKind.i64.wrap ((i : Int) + 1) = (i : Int) + 1 := wrap64 (by omega) (by omega)
    simp [t0, t3, t4]
    refine stpL_runs (l8DrawIn htoB.2) ?_
    rintro _ D ⟨⟨d, rfl⟩, htoD⟩
    have hcD := hcB.next htoD
    have oqD := oqB.keep htoD.1 (fun k hk => hne k (hfd k hk))
    have hlD := hcD.len
    simp [In.enc, t3]
    refine stpL_append (e := 30) (rows := ds.map In.enc) (ys := [d.enc]) (oqD.app _) (Sl.of (by simp [In.enc])) rfl rfl rfl (by simp) (by simp; omega) (by simp) rfl fun a2 E fc hoE hkE hfE => ?_
    have kE : Keep fd D E := hkE.base
    simp [t0, t4, hw]
    refine hn2 (j - 1) _ _ (by omega) ⟨i + 1, a2, ds ++ [d], fc, by omega, by simp [hdl], by simp [t0], by simp, by simp, ?_, by simpa using hoE, ?_⟩
    · exact hcD.own kE (fun k hk => hfd k hk) hcl
    · intro k hk
      rcases hfE k hk with h | h
      · exact hfd k h
      · simp at h; omega
  · simp at hc2
    simp
    refine he2 _ _ _ ?_
    simp [t3]
    refine hQ _ _ _ (by simp) ?_
    simp [Try.f98]
    refine ⟨?_, hcB.leave hc _⟩
    rcases leave_opt H B [W.lf (.sl aa ds.length)] with e | ⟨e, hr⟩ <;> rw [e]
    · exact ⟨ds, ⟨fd, ⟨aa, rfl, oqB⟩, by omega, hfd⟩⟩
    · exact ⟨ds, ⟨[], (IsSl.free ⟨aa, rfl, oqB⟩ (by simpa [W.free] using hr) H), by omega, by simp⟩⟩

theorem drawBridgeOf {H : Heap} {a : Option (Nat × Nat)} {bs : List Int} (hs : Sl H 5 a (bs.map encU)) (hn : bs.length ≤ 1048576) : Runs env 16 [.w (.lf (.sl a bs.length))] H fun v H' => (∃ (i p : Int) (q : Lf) (xs : List In) (fq : List Nat), v = .tup [.lf (.i .i64 i), .lf (.i .i64 p), .lf q] ∧ (0 ≤ i ∧ i ≤ 10) ∧ (0 ≤ p ∧ p ≤ 5) ∧ IsInS H' q xs fq ∧ xs.length ≤ 7) ∧ Keep [] H H' := by
  refine Runs.walk ok16 Try.func16 rfl (by simp [Try.f16]) fun Q hQ => ?_
  simp only [Try.f16, strip, stripL, stripI, stripG, chkT, tagsB, tagsL, tagD, addT, tagA, lookN, tagOp, elmT, ty22, ty24, ty33, ty40, ty44, ty54, ty55, ty63, ty171, ty175, ty176, ty183, Nat.reduceEqDiff, if_false, reduceIte, Option.getD_some, Option.getD_none, dstAt, dstOk, Nat.reduceLT, decide_true, if_true]
  simp
  refine stpL_runs (l1New hs hn) ?_
  rintro _ X ⟨c, rfl, hc, hcl, hk⟩
  simp
  refine stpL_runs (l1Below hc 11) ?_
  rintro _ A ⟨⟨u, rfl, hu0, hu1, -⟩, htoA⟩
  have hu := hu1 (by omega)
  simp
  refine stpL_runs (l1Below htoA.2 6) ?_
  rintro _ B ⟨⟨w, rfl, hw0, hw1, -⟩, htoB⟩
  have hw := hw1 (by omega)
  have hcB := htoA.next htoB
  have hcl2 := hc.lt
  simp
  refine stpL_runs (l9DrawList htoB.2) ?_
  rintro _ C ⟨⟨q, xs, fp, rfl, ox, hxl, hfp⟩, htoC⟩
  have hcC := hcB.next htoC
  have hBl := hcB.len
  simp
  refine stpL_runs (l1Once htoC.2 4) ?_
  rintro _ D ⟨⟨b, rfl⟩, htoD⟩
  have hcD := hcC.next htoD
  have no : ∀ i ∈ fp, i ∉ [c] := fun i hi h => by have := hfp i hi; simp at h; omega
  have oxD := ox.keep htoD.1 no
  obtain ⟨aq, rfl, oq⟩ := oxD
  have fin : ∀ (HF : Heap) (tm : Ab.T) (a' : Option (Nat × Nat)) (ys : List In) (fq : List Nat), tm 2 = .int u → tm 3 = .int w → tm 4 = .w (.lf (.sl a' ys.length)) → Own HF 30 a' (ys.map In.enc) fq → ys.length ≤ 7 → Keep [] H HF → Q .ret tm HF := by
    intro HF tm a' ys fq t2 t3 t4 oF hl kF
    refine hQ _ _ _ (by simp) ?_
    have hres : resT env.τ tm HF (Try.f16.results.toList) = some [W.lf (.i .i64 u), W.lf (.i .i64 w), W.lf (.sl a' ys.length)] := by simp [Try.f16, t2, t3, t4]
    rw [hres, optK_some]
    rcases leave_opt H HF [W.lf (.i .i64 u), W.lf (.i .i64 w), W.lf (.sl a' ys.length)] with e | ⟨e, hr⟩ <;> rw [e]
    · exact ⟨⟨u, w, _, ys, fq, rfl, ⟨hu0, by omega⟩, ⟨hw0, by omega⟩, ⟨a', rfl, oF⟩, hl⟩, kF⟩
    · simp only [List.all_cons, Bool.and_eq_true] at hr
      exact ⟨⟨u, w, _, ys, [], rfl, ⟨hu0, by omega⟩, ⟨hw0, by omega⟩, (IsSl.free ⟨a', rfl, oF⟩ (by simpa [W.free] using hr.2.2.1) H), hl⟩, Keep.refl _ _⟩
  cases b
  · simp
    refine fin D _ aq xs fp ?_ ?_ ?_ oq (by omega) (hk.next hcD.1 (by simp; omega))
    all_goals simp
  · simp
    refine stpL_runs (l8DrawBent htoD.2) ?_
    rintro _ E ⟨⟨y, rfl⟩, htoE⟩
    have hcE := hcD.next htoE
    have oqE := oq.keep htoE.1 no
    simp [In.enc]
    refine stpL_append (e := 30) (rows := xs.map In.enc) (ys := [y.enc]) (oqE.app _) (Sl.of (by simp [In.enc])) rfl rfl rfl (by simp) (by simp; omega) (by simp) rfl fun a2 F fc hoF hkF hfF => ?_
    have kF : Keep fp E F := hkF.base
    have hcF := hcE.own kF (fun k hk => by have := hfp k hk; omega) hcl2
    simp
    refine fin F _ a2 (xs ++ [y]) fc ?_ ?_ ?_ (by simpa using hoF) (by simp; omega) (hk.next hcF.1 (by simp; omega))
    all_goals simp

theorem drawSaying {H : Heap} {a : Option (Nat × Nat)} {bs : List Int} (hs : Sl H 5 a (bs.map encU)) (hn : bs.length ≤ 1048576) : Runs env 21 [.w (.lf (.sl a bs.length))] H fun v H' => (∃ (i p : Int) (q : Lf) (xs : List In) (k : Int), v = .tup [.lf (.i .i64 i), .lf (.i .i64 p), .lf q, .lf (.i .i64 k)] ∧ (0 ≤ i ∧ i ≤ 10) ∧ (0 ≤ p ∧ p ≤ 5) ∧ RdInS H' q xs ∧ xs.length ≤ 7 ∧ -1 ≤ k ∧ k ≤ xs.length) ∧ Keep [] H H' := by
  refine Runs.walk ok21 Try.func21 rfl (by simp [Try.f21]) fun Q hQ => ?_
  simp only [Try.f21, strip, stripL, stripI, stripG, chkT, tagsB, tagsL, tagD, addT, tagA, lookN, tagOp, elmT, ty22, ty24, ty33, ty40, ty44, ty54, ty55, ty63, ty171, ty175, ty176, ty183, Nat.reduceEqDiff, if_false, reduceIte, Option.getD_some, Option.getD_none, dstAt, dstOk, Nat.reduceLT, decide_true, if_true]
  simp
  refine stpL_runs (drawBridgeOf hs hn) ?_
  rintro _ X ⟨⟨i, p, q, xs, fq0, rfl, hi, hp, ox, hxl⟩, kX⟩
  have ox := ox.rd
  simp
  refine stpL_runs (l1New (hs.keep kX (by simp)) hn) ?_
  rintro _ Y ⟨c, rfl, hc, hcl, hk⟩
  have w1 : IntKind.i64.wrap ((xs.length : Int) + 2) = (xs.length : Int) + 2 := wrap64 (by omega) (by omega)
  obtain ⟨aq, rfl, sq⟩ := ox
  simp [builtinV, pureB, lenV, w1]
  refine stpL_runs (l1Below hc ((xs.length : Int) + 2)) ?_
  rintro _ Z ⟨⟨u, rfl, hu0, hu1, -⟩, hto⟩
  have hu := hu1 (by omega)
  have w2 : IntKind.i64.wrap (u - 1) = u - 1 := wrap64 (by omega) (by omega)
  have kXZ : Keep [] X Z := hk.next hto.1 (by simp; omega)
  have sqZ := sq.keep kXZ (by simp)
  have kZ : Keep [] H Z := kX.next kXZ (by simp)
  simp [w2]
  have fin : ∀ (tm : Ab.T), tm 2 = .int i → tm 3 = .int p → tm 4 = .w (.lf (.sl aq xs.length)) → tm 5 = .int (u - 1) → Q .ret tm Z := by
    intro tm t2 t3 t4 t5
    refine hQ _ _ _ (by simp) ?_
    have hres : resT env.τ tm Z (Try.f21.results.toList) = some [W.lf (.i .i64 i), W.lf (.i .i64 p), W.lf (.sl aq xs.length), W.lf (.i .i64 (u - 1))] := by simp [Try.f21, t2, t3, t4, t5]
    rw [hres, optK_some]
    have hkZ : RdInS (leave H Z [W.lf (.i .i64 i), W.lf (.i .i64 p), W.lf (.sl aq xs.length), W.lf (.i .i64 (u - 1))]) (.sl aq xs.length) xs ∧ Keep [] H (leave H Z [W.lf (.i .i64 i), W.lf (.i .i64 p), W.lf (.sl aq xs.length), W.lf (.i .i64 (u - 1))]) := by
      rcases leave_opt H Z [W.lf (.i .i64 i), W.lf (.i .i64 p), W.lf (.sl aq xs.length), W.lf (.i .i64 (u - 1))] with e | ⟨e, hr⟩ <;> rw [e]
      · exact ⟨⟨aq, rfl, sqZ⟩, kZ⟩
      · refine ⟨?_, Keep.refl _ _⟩
        rcases aq with _ | p'
        · have hx := sl_nil sq
          simp at hx
          subst hx
          exact ⟨none, rfl, Sl.nil _ _ _⟩
        · simp [W.free, refFree] at hr
    exact ⟨⟨i, p, _, xs, u - 1, rfl, hi, hp, hkZ.1, hxl, by omega, by omega⟩, hkZ.2⟩
  refine fin _ ?_ ?_ ?_ ?_ <;> simp

theorem drawGates {H : Heap} {a : Option (Nat × Nat)} {bs : List Int} (hs : Sl H 5 a (bs.map encU)) (hn : bs.length ≤ 1048576) : Runs env 23 [.w (.lf (.sl a bs.length))] H fun v H' => (∃ (l : List Lf) (x : Bridge) (fp : List Nat), v = .agg l ∧ IsBridge H' l x fp ∧ 1 ≤ x.ports.length ∧ x.ports.length ≤ 6) ∧ Keep [] H H' := by
  refine Runs.walk ok23 Try.func23 rfl (by simp [Try.f23]) fun Q hQ => ?_
  simp only [Try.f23, strip, stripL, stripI, stripG, chkT, tagsB, tagsL, tagD, addT, tagA, lookN, tagOp, elmT, ty22, ty24, ty33, ty40, ty44, ty54, ty55, ty63, ty171, ty175, ty176, ty183, Nat.reduceEqDiff, if_false, reduceIte, Option.getD_some, Option.getD_none, dstAt, dstOk, Nat.reduceLT, decide_true, if_true]
  obtain ⟨X0, hX0⟩ : ∃ X0 : Heap, X0 = H ++ [some ⟨26, .wr, [[.i .i64 0, .sl none 0]]⟩] := ⟨_, rfl⟩
  have bz0 : blkAt X0 H.length = some ⟨26, .wr, [[.i .i64 0, .sl none 0]]⟩ := by rw [hX0]; simp
  have k0 : Keep [] H X0 := by rw [hX0]; exact Keep.app _ _ _
  have hl0 : X0.length = H.length + 1 := by rw [hX0]; simp
  have hs0 : Sl X0 5 a (bs.map encU) := by rw [hX0]; exact hs.app _
  simp
  rw [← hX0]
  refine stpL_runs (l1New hs0 hn) ?_
  rintro _ X ⟨c, rfl, hc, hcl, hk⟩
  have bz := hk.blk bz0 (by simp)
  simp
  refine stpL_runs (l8Draw hc) ?_
  rintro _ Y ⟨⟨l, m, fp, rfl, om, hm1, hm6, hfp⟩, hto⟩
  have bz2 := hto.1.blk bz (fun h => by simp at h; omega)
  have hY := blkAt_len bz2
  have hX := blkAt_len bz
  have hL := om.rd.len
  have hT : l.take l.length = l := List.take_length
  rw [hL] at hT
  simp [bz2, hY, hL, hT, -set_lt]
  refine hQ _ _ _ (by simp) ?_
  obtain ⟨HF, hHF⟩ : ∃ HF : Heap, HF = Y.set H.length (some ⟨26, .wr, [l]⟩) := ⟨_, rfl⟩
  rw [← hHF]
  have b2 : blkAt HF H.length = some ⟨26, .wr, [l]⟩ := by rw [hHF]; exact blkAt_set hY
  have kF : Keep [H.length] Y HF := by rw [hHF]; exact Keep.set _ _
  have kA : Keep [] H HF := ((k0.next hk (by simp)).next hto.1 (by simp; omega)).next kF (by simp)
  have oF := om.keep kF (fun i hi h => by have := hfp i hi; simp at h; omega)
  simp [Try.f23, b2, hL, hT]
  rcases leave_opt H HF [W.agg l] with e | ⟨e, hr⟩ <;> rw [e]
  · exact ⟨⟨m, ⟨fp, oF⟩, hm1, hm6⟩, kA⟩
  · exact ⟨⟨m, ⟨[], oF.free (by simpa using hr) H⟩, hm1, hm6⟩, Keep.refl _ _⟩

theorem sameFlagsL {H : Heap} {q r : Lf} {xs ys : List Bool} (h : RdBoolS H q xs) (h2 : RdBoolS H r ys) (hn : xs.length ≤ 1048576) : run env 24 [.w (.lf q), .w (.lf r)] H = some (.bool (decide (xs = ys)), H) := by
  obtain ⟨a, rfl, ha⟩ := h
  obtain ⟨b, rfl, hb⟩ := h2
  refine run_walk ok24 Try.func24 rfl (by simp [Try.f24]) fun Q hQ => ?_
  simp only [Try.f24, strip, stripL, stripI, stripG, chkT, tagsB, tagsL, tagD, addT, tagA, lookN, tagOp, elmT, ty22, ty24, ty33, ty40, ty44, ty54, ty55, ty63, ty171, ty175, ty176, ty183, Nat.reduceEqDiff, if_false, reduceIte, Option.getD_some, Option.getD_none, dstAt, dstOk, Nat.reduceLT, decide_true, if_true]
  simp [builtinV, pureB, lenV]
  refine selS_intro (fun hl => ?_) (fun hl => ?_)
  · simp
    refine hQ _ _ _ (by simp) ?_
    simp at hl
    have : ¬ xs = ys := fun h => hl (by rw [h])
    simp [Try.f24, this]
  simp at hl
  simp [builtinV, pureB, lenV]
  refine wpS_loop (fun j tm H' => ∃ i, i + j = xs.length ∧ tm 0 = .w (.lf (.sl a xs.length)) ∧ tm 1 = .w (.lf (.sl b ys.length)) ∧ tm 5 = .int i ∧ H' = H ∧ xs.take i = ys.take i) xs.length (by rw [env_K]; omega) ⟨0, by simp, by simp, by simp, by simp, rfl, by simp⟩ ?_
  rintro j tm H' hj ⟨i, hij, h0, h1, h5, rfl, heq⟩ Q' hn' he' hr'
  simp [h0, h1, h5, builtinV, pureB, lenV]
  refine selS_intro (fun hc => ?_) (fun hc => ?_)
  · simp at hc
    have hc2 : i < ys.length := by omega
    obtain ⟨id, r, bl, rfl, hbl, hbe, hrow⟩ := ha i _ (by simp [hc]; rfl)
    obtain ⟨id2, r2, bl2, rfl, hbl2, hbe2, hrow2⟩ := hb i _ (by simp [hc2]; rfl)
    have g4 : IntKind.i64.wrap ((i : Int) + 1) = (i : Int) + 1 := wrap64 (by omega) (by omega)
    simp [h0, h1, h5, indexAddrV, elemIs, hbl, hbe, hbl2, hbe2, hc, hc2, hrow, hrow2, encB]
    refine selS_intro (fun hd => ?_) (fun hd => ?_)
    · simp
      refine hr' _ _ ?_
      simp
      refine hQ _ _ _ (by simp) ?_
      have : ¬ xs = ys := fun h => by subst h; simp at hd
      simp [Try.f24, this]
    · have hxy : xs[i] = ys[i] := by
        refine encB_inj ?_
        simpa [encB] using hd
      simp [h0, h1, h5, g4]
      exact hn' (j - 1) _ _ (by omega) ⟨i + 1, by omega, by simp [h0], by simp [h1], by simp, rfl, by rw [List.take_add_one, List.take_add_one, heq]; simp [hc, hc2, hxy]⟩
  · simp at hc
    simp [h0, h1, h5]
    refine he' _ _ _ ?_
    simp
    refine hQ _ _ _ (by simp) ?_
    have : xs = ys := by
      rw [List.take_of_length_le (by omega), List.take_of_length_le (by omega)] at heq
      exact heq
    simp [Try.f24, this]

theorem saying_at (id ports : Int) (log : List In) {i : Nat} (h : i < log.length) : saying id ports log i = (reactB (bridgeOf id ports (log.take i)) log[i]).2 := by
  unfold saying
  rw [if_pos (by simp; omega)]
  simp [h]
theorem sameLogLaw {H : Heap} {a : Option (Nat × Nat)} {bs : List Int} (hs : Sl H 5 a (bs.map encU)) (hr : ∀ x ∈ bs, 0 ≤ x ∧ x ≤ 255) : Runs env 4 [.w (.lf (.sl a bs.length))] H fun v _ => v = .bool true := by
  have eb := fun (H : Heap) => bigL (H := H) (a := a) (n := bs.length)
  refine Runs.walk ok4 Try.func4 rfl (by simp [Try.f4]) fun Q hQ => ?_
  simp only [Try.f4, strip, stripL, stripI, stripG, chkT, tagsB, tagsL, tagD, addT, tagA, lookN, tagOp, elmT, ty22, ty24, ty33, ty40, ty44, ty54, ty55, ty63, ty171, ty175, ty176, ty183, Nat.reduceEqDiff, if_false, reduceIte, Option.getD_some, Option.getD_none, dstAt, dstOk, Nat.reduceLT, decide_true, if_true]
  simp [eb]
  refine selS_intro (fun hb => ?_) (fun hb => ?_)
  · simp
    refine hQ _ _ _ (by simp) ?_
    simp [Try.f4]
  simp at hb
  have hn : bs.length ≤ 1048576 := by omega
  simp
  refine stpL_runs (drawBridgeOf hs hn) ?_
  rintro _ X ⟨⟨id, p, q, log, fq, rfl, hi, hp, ox, hxl⟩, kX⟩
  have hi64 : I64 id := by unfold I64; omega
  have hp64 : I64 p := by unfold I64; omega
  obtain ⟨aq, rfl, oq⟩ := ox
  have sq := oq.sl
  have hel : ∀ id2 r2, aq = some (id2, r2) → ∃ bl, blkAt X id2 = some bl ∧ bl.elem = 30 := by
    intro id2 r2 he
    rcases oq with ⟨hx, -⟩ | ⟨id', b, hx, -, hb, hbe, -⟩
    · rw [hx] at he; cases he
    · rw [hx] at he; cases he; exact ⟨b, hb, hbe⟩
  have ox : RdInS X (.sl aq log.length) log := ⟨aq, rfl, sq⟩
  simp
  refine stpL_runs (implBridgeOf_is ox (by omega) id hi64 p hp64) ?_
  have hAl := bridgeOf_len id p log
  obtain ⟨B, hB⟩ : ∃ B, B = bridgeOf id p log := ⟨_, rfl⟩
  rw [← hB] at hAl ⊢
  rintro _ _ ⟨l1, f1, rfl, o1, ⟨⟨G1, rfl⟩, -⟩⟩
  have hL1 := o1.rd.len
  have hT1 : l1.take l1.length = l1 := List.take_length
  rw [hL1] at hT1
  have hf1 := o1.lt
  simp [hL1, hT1]
  obtain ⟨X1, hX1⟩ : ∃ X1 : Heap, X1 = X ++ (G1 ++ [some ⟨26, .wr, [l1]⟩]) := ⟨_, rfl⟩
  have b6 : blkAt X1 (X.length + G1.length) = some ⟨26, .wr, [l1]⟩ := by rw [hX1]; simp
  have k1 : Keep [] X X1 := by rw [hX1]; exact Keep.app _ _ _
  have o1 := o1.app [some ⟨26, .wr, [l1]⟩]
  rw [List.append_assoc, ← hX1] at o1
  rw [← hX1]
  clear hX1
  obtain ⟨K6, hK6⟩ : ∃ K, K = X.length + G1.length := ⟨_, rfl⟩
  rw [← hK6] at b6 ⊢
  have n6 := blkAt_len b6
  have ox1 := ox.base k1
  refine stpL_runs_f (specBridgeOf_is ox1 (by omega) id hi64 p hp64) (by rintro _ _ ⟨_, _, _, _, hf⟩; exact hf.1) ?_
  rw [← hB]
  rintro _ _ ⟨l2, f2, rfl, o2, ⟨⟨G2, rfl⟩, -⟩⟩
  have hBz : B.sz ≤ 1048576 := by unfold Bridge.sz; omega
  have e1 := sameBridgeL (o1.rd.app G2) o2.rd hBz
  obtain ⟨X2, hX2⟩ : ∃ X2 : Heap, X2 = X1 ++ G2 := ⟨_, rfl⟩
  have k2 : Keep [] X1 X2 := by rw [hX2]; exact Keep.app _ _ _
  rw [← hX2] at e1
  have kH2 : Keep [] H X2 := (kX.next k1 (by simp)).next k2 (by simp)
  obtain ⟨v, hv0, hv1, eat⟩ := atL (hs.keep kH2 (by simp)) hr hn
  rw [← hX2]
  clear hX2 o2
  have w1 : IntKind.i64.wrap ((log.length : Int) + 1) = (log.length : Int) + 1 := wrap64 (by omega) (by omega)
  have hne : (log.length : Int) + 1 ≠ 0 := by omega
  obtain ⟨k, hk⟩ : ∃ k : Nat, v.tmod ((log.length : Int) + 1) = (k : Int) := ⟨(v.tmod ((log.length : Int) + 1)).toNat, by have := Int.tmod_nonneg ((log.length : Int) + 1) hv0; omega⟩
  have hkl : k ≤ log.length := by have := Int.tmod_lt_of_pos v (show (0 : Int) < (log.length : Int) + 1 by omega); omega
  have hkI : (k : Int) ≤ log.length := by omega
  have sq2 := sq.keep (k1.next k2 (by simp)) (by simp)
  have ox2 : RdInS X2 (.sl aq log.length) log := ⟨aq, rfl, sq2⟩
  have hRk : ∃ q2, sliceV env.τ X2 44 (.w (.lf (.sl aq log.length))) none (some (.int k)) none = some (.w (.lf q2), X2) ∧ RdInS X2 q2 (log.take k) := by
    rcases aq with _ | ⟨id2, r2⟩
    · have hx := sl_nil sq
      simp at hx
      subst hx
      have hk0 : k = 0 := by simp at hkl; exact hkl
      subst hk0
      refine ⟨.sl none 0, ?_, none, rfl, Sl.nil _ _ _⟩
      simp [sliceV, elemIs, bnd]
    · refine ⟨.sl (some (id2, r2)) k, ?_, some (id2, r2), by simp; omega, by rw [List.map_take]; exact sl_take sq2 k⟩
      obtain ⟨bl, hbl, hbe⟩ := hel id2 r2 rfl
      have hbl2 := (k1.next k2 (by simp)).blk hbl (by simp)
      simp [sliceV, elemIs, bnd, hbl2, hbe, hkl, hkI]
  obtain ⟨q2, hq2, R2⟩ := hRk
  simp [b6, n6, hL1, hT1, e1, eat, hk, hne, w1, builtinV, pureB, lenV, hq2]
  refine stpL_runs (implBridgeOf_is R2 (by simp; omega) id hi64 p hp64) ?_
  rintro _ _ ⟨l8, f8, rfl, o8, ⟨⟨G8, rfl⟩, hf8⟩⟩
  have hL8 := o8.rd.len
  have hT8 : l8.take l8.length = l8 := List.take_length
  rw [hL8] at hT8
  have hf8l := o8.lt
  simp [hL8, hT8]
  obtain ⟨X3, hX3⟩ : ∃ X3 : Heap, X3 = X2 ++ (G8 ++ [some ⟨26, .wr, [l8]⟩]) := ⟨_, rfl⟩
  have b8 : blkAt X3 (X2.length + G8.length) = some ⟨26, .wr, [l8]⟩ := by rw [hX3]; simp
  have k3 : Keep [] X2 X3 := by rw [hX3]; exact Keep.app _ _ _
  have o8 := o8.app [some ⟨26, .wr, [l8]⟩]
  rw [List.append_assoc, ← hX3] at o8
  rw [← hX3]
  clear hX3
  obtain ⟨K8, hK8⟩ : ∃ K, K = X2.length + G8.length := ⟨_, rfl⟩
  rw [← hK8] at b8 ⊢
  have ox3 := ox2.base k3
  have b6' := (k2.next k3 (by simp)).blk b6 (by simp)
  have o13 := o1.keep (k2.next k3 (by simp)) (by simp)
  have kH3 := kH2.next k3 (by simp)
  have hX12 := k2.1
  have hX01 := k1.1
  have n8 := blkAt_len b8
  have hK8l : X2.length ≤ K8 := by omega
  have hK86 : K6 < K8 := by omega
  have hf18 : ∀ i ∈ f1, i ∉ [K8] := fun i hi h => by have := hf1 i hi; simp at this h; omega
  have hf88 : K8 ∉ f8 := fun h => by have := hf8l K8 h; simp at this; omega
  have haK : ∀ id2 r2, aq = some (id2, r2) → id2 ∉ [K8] := fun id2 r2 he h => by
    obtain ⟨bl, hbl, -⟩ := hel id2 r2 he
    have := blkAt_len hbl
    simp at h
    omega
  have sq3 := sq2.keep k3 (by simp)
  refine wpS_loop (fun j tm H' => ∃ (i : Nat) (l : List Lf) (fa : List Nat), i + j = log.length ∧ k ≤ i ∧ tm 0 = .w (.lf (.sl a bs.length)) ∧ tm 3 = .int id ∧ tm 4 = .int p ∧ tm 5 = .w (.lf (.sl aq log.length)) ∧ tm 6 = .ptr K6 0 0 ∧ tm 8 = .ptr K8 0 0 ∧ tm 9 = .int i ∧ Keep [K8] X3 H' ∧ blkAt H' K8 = some ⟨26, .wr, [l]⟩ ∧ IsBridge H' l (bridgeOf id p (log.take i)) fa ∧ K8 ∉ fa) (log.length - k) (by rw [env_K]; omega) ⟨k, l8, f8, by omega, by omega, by simp, by simp, by simp, by simp, by simp, by simp, by simp, Keep.refl _ _, b8, o8, hf88⟩ ?_
  rintro j tm A hj ⟨i, l, fa, hij, hki, t0, t3, t4, t5, t6, t8, t9, kA, bA, oA, hfa⟩ Q2 hn2 he2 hr2
  simp [t5, t9, builtinV, pureB, lenV]
  refine selS_intro (fun hc => ?_) (fun hc => ?_)
  · simp at hc
    have sqA := sq3.keep kA haK
    have RA : RdInS A (.sl aq log.length) log := ⟨aq, rfl, sqA⟩
    obtain ⟨id2, r2, bl2, haq, hbl2, hbe2, hrow2⟩ := sqA i _ (by simp [hc]; rfl)
    have nA := blkAt_len bA
    have n2 := blkAt_len hbl2
    have hbl := bridgeOf_len id p (log.take i)
    have hLl := oA.rd.len
    have hTl : l.take l.length = l := List.take_length
    rw [hLl] at hTl
    have hRe := implReact oA.rd (by unfold Bridge.sz; omega) log[i]
    have hst := bridgeOf_step id p log hc
    have hsa := saying_at id p log hc
    obtain ⟨N, hN⟩ : ∃ N, N = (reactB (bridgeOf id p (log.take i)) log[i]).1 := ⟨_, rfl⟩
    obtain ⟨os, hos⟩ : ∃ os, os = (reactB (bridgeOf id p (log.take i)) log[i]).2 := ⟨_, rfl⟩
    have hst' : bridgeOf id p (log.take (i + 1)) = N := by rw [hst, hN]; rfl
    rw [← hos] at hsa
    rw [← hN, ← hos] at hRe
    simp only [In.enc] at hRe
    subst haq
    simp [t3, t4, t5, t8, t9, bA, nA, hLl, hTl, indexAddrV, elemIs, hbl2, n2, hbe2, hc, hrow2, In.enc]
    refine stpL_runs_f hRe (by rintro _ _ ⟨_, _, _, _, _, _, _, hf, _⟩; exact hf.1) ?_
    rintro _ _ ⟨l10, f10, q11, f11, rfl, o10, o11, ⟨⟨G10, rfl⟩, hf10⟩, -⟩
    have hL10 := o10.rd.len
    have hT10 : l10.take l10.length = l10 := List.take_length
    rw [hL10] at hT10
    obtain ⟨a11, rfl, o11⟩ := o11
    simp [t3, t4, t5, t9, hL10, hT10]
    obtain ⟨A1, hA1⟩ : ∃ A1 : Heap, A1 = A ++ (G10 ++ [some ⟨26, .wr, [l10]⟩]) := ⟨_, rfl⟩
    have b10 : blkAt A1 (A.length + G10.length) = some ⟨26, .wr, [l10]⟩ := by rw [hA1]; simp
    have kA1 : Keep [] A A1 := by rw [hA1]; exact Keep.app _ _ _
    have o10 := o10.app [some ⟨26, .wr, [l10]⟩]
    have o11 := o11.sl.app [some ⟨26, .wr, [l10]⟩]
    rw [List.append_assoc, ← hA1] at o10 o11
    rw [← hA1]
    clear hA1
    obtain ⟨K10, hK10⟩ : ∃ K, K = A.length + G10.length := ⟨_, rfl⟩
    rw [← hK10] at b10
    rw [← hK10]
    refine stpL_runs (implSaying_is (RA.base kA1) (by omega) id hi64 p hp64 i (by unfold I64; omega)) ?_
    rw [hsa]
    rintro _ _ ⟨q12, f12, rfl, ⟨a12, rfl, o12⟩, ⟨⟨G12, rfl⟩, -⟩⟩
    obtain ⟨A2, hA2⟩ : ∃ A2 : Heap, A2 = A1 ++ G12 := ⟨_, rfl⟩
    have kA2 : Keep [] A1 A2 := by rw [hA2]; exact Keep.app _ _ _
    have o12 := o12.sl
    rw [← hA2] at o12 ⊢
    clear hA2
    have o11 := o11.keep kA2 (by simp)
    have o10 := o10.keep kA2 (by simp)
    have b10 := kA2.blk b10 (by simp)
    have n10 := blkAt_len b10
    have bA2 := (kA1.next kA2 (by simp)).blk bA (by simp)
    have nA2 := blkAt_len bA2
    have g4 : IntKind.i64.wrap ((i : Int) + 1) = (i : Int) + 1 := wrap64 (by omega) (by omega)
    have hosl : os.length ≤ 100 := by have := saying_len id p log i; rw [hsa] at this; omega
    simp [builtinV, pureB, lenV]
    refine wpS_loop (fun j tm H' => ∃ m : Nat, m + j = os.length ∧ tm 0 = .w (.lf (.sl a bs.length)) ∧ tm 3 = .int id ∧ tm 4 = .int p ∧ tm 5 = .w (.lf (.sl (some (id2, r2)) log.length)) ∧ tm 6 = .ptr K6 0 0 ∧ tm 8 = .ptr K8 0 0 ∧ tm 9 = .int i ∧ tm 10 = .ptr K10 0 0 ∧ tm 11 = .w (.lf (.sl a11 os.length)) ∧ tm 12 = .w (.lf (.sl a12 os.length)) ∧ tm 13 = .int m ∧ H' = A2) os.length (by rw [env_K]; omega) ⟨0, by simp, by simp [t0], by simp [t3], by simp [t4], by simp [t5], by simp [t6], by simp [t8], by simp [t9], by simp, by simp, by simp, by simp, rfl⟩ ?_
    rintro j2 tm2 H2 hj2 ⟨m, hm, u0, u3, u4, u5, u6, u8, u9, u10, u11, u12, u13, rfl⟩ Q3 hn3 he3 hr3
    simp [u11, u13, builtinV, pureB, lenV]
    refine selS_intro (fun hc2 => ?_) (fun hc2 => ?_)
    · simp at hc2
      obtain ⟨x1, y1, bx1, rfl, hx1, hxe1, hxr1⟩ := o11 m _ (by simp [hc2]; rfl)
      obtain ⟨x2, y2, bx2, rfl, hx2, hxe2, hxr2⟩ := o12 m _ (by simp [hc2]; rfl)
      have nx1 := blkAt_len hx1
      have nx2 := blkAt_len hx2
      have g5 : IntKind.i64.wrap ((m : Int) + 1) = (m : Int) + 1 := wrap64 (by omega) (by omega)
      simp [u11, u12, u13, indexAddrV, elemIs, hx1, nx1, hxe1, hxr1, hx2, nx2, hxe2, hxr2, hc2, Out.enc, g5]
      exact hn3 (j2 - 1) _ _ (by omega) ⟨m + 1, by omega, by simp [u0], by simp [u3], by simp [u4], by simp [u5], by simp [u6], by simp [u8], by simp [u9], by simp [u10], by simp [u11], by simp [u12], by simp, rfl⟩
    · simp at hc2
      simp
      refine he3 _ _ _ ?_
      have hDl : l.drop 2 = [] := by rw [← hLl]; exact List.drop_length
      simp [u8, u9, u10, b10, n10, bA2, nA2, hL10, hT10, hLl, hDl, g4]
      have kS : Keep [K8] H2 (H2.set K8 (some ⟨26, .wr, [l10]⟩)) := Keep.set _ _
      have hAl8 := blkAt_len bA
      have hf10' : ∀ z ∈ f10, z ∉ [K8] := fun z hz h => by have := hf10 z (by simp [hz]); simp at h; omega
      refine hn2 (j - 1) _ _ (by omega) ⟨i + 1, l10, f10, by omega, by omega, by simp [u0], by simp [u3], by simp [u4], by simp [u5], by simp [u6], by simp [u8], by simp, ?_, blkAt_set nA2, ?_, fun h => hf10' _ h (by simp)⟩
      · exact (kA.trans ((kA1.next kA2 (by simp)).more (by simp)) (fun _ h _ => h) (fun _ h _ => h)).trans kS (fun _ h _ => h) (fun _ h _ => h)
      · rw [hst']
        exact o10.keep kS hf10'
  simp at hc
  simp
  refine he2 _ _ _ ?_
  rw [List.take_of_length_le (by omega), ← hB] at oA
  have hsA : Sl A 5 a (bs.map encU) := by
    by_cases hbn : bs = []
    · subst hbn; exact Sl.nil _ _ _
    · refine (hs.keep kH3 (by simp)).keep kA (fun id3 r3 he hm => ?_)
      subst he
      have := hs.len (by simpa using hbn)
      have := kX.1
      simp at hm
      omega
  have o6A := o13.keep kA hf18
  have b6A := kA.blk b6' (by simp; omega)
  simp [t0]
  refine stpL_runs (drawSaying hsA hn) ?_
  rintro _ C ⟨⟨i2, p2, q3, xs, k3', rfl, hi2, hp2, ox', hxl', hq1, hq2'⟩, kC⟩
  have hi264 : I64 i2 := by unfold I64; omega
  have hp264 : I64 p2 := by unfold I64; omega
  have hk264 : I64 k3' := by unfold I64; omega
  simp
  refine stpL_runs (implSaying_is ox' (by omega) i2 hi264 p2 hp264 k3' hk264) ?_
  have hSl := saying_len i2 p2 xs k3'
  obtain ⟨S, hS⟩ : ∃ S, S = saying i2 p2 xs k3' := ⟨_, rfl⟩
  rw [← hS] at hSl ⊢
  rintro _ _ ⟨q18, f18, rfl, ⟨a18, rfl, o18⟩, ⟨⟨G18, rfl⟩, -⟩⟩
  simp
  refine stpL_runs (specSaying_is (ox'.app G18) (by omega) i2 hi264 p2 hp264 k3' hk264) ?_
  rw [← hS]
  rintro _ _ ⟨q19, f19, rfl, ⟨a19, rfl, o19⟩, ⟨⟨G19, rfl⟩, -⟩⟩
  have o18 := (o18.app G19).sl
  have o19 := o19.sl
  obtain ⟨D, hD⟩ : ∃ D : Heap, D = C ++ G18 ++ G19 := ⟨_, rfl⟩
  rw [← hD] at o18 o19 ⊢
  have kD : Keep [] A D := by rw [hD, List.append_assoc]; exact kC.next (Keep.app [] C (G18 ++ G19)) (by simp)
  clear hD
  simp [builtinV, pureB, lenV]
  refine wpS_loop (fun j tm H' => ∃ m : Nat, m + j = S.length ∧ tm 0 = .w (.lf (.sl a bs.length)) ∧ tm 6 = .ptr K6 0 0 ∧ tm 8 = .ptr K8 0 0 ∧ tm 18 = .w (.lf (.sl a18 S.length)) ∧ tm 19 = .w (.lf (.sl a19 S.length)) ∧ tm 20 = .int m ∧ H' = D) S.length (by rw [env_K]; omega) ⟨0, by simp, by simp [t0], by simp [t6], by simp [t8], by simp, by simp, by simp, rfl⟩ ?_
  rintro j2 tm2 H2 hj2 ⟨m, hm, u0, u6, u8, u18, u19, u20, rfl⟩ Q3 hn3 he3 hr3
  simp [u18, u20, builtinV, pureB, lenV]
  refine selS_intro (fun hc2 => ?_) (fun hc2 => ?_)
  · simp at hc2
    obtain ⟨x1, y1, bx1, rfl, hx1, hxe1, hxr1⟩ := o18 m _ (by simp [hc2]; rfl)
    obtain ⟨x2, y2, bx2, rfl, hx2, hxe2, hxr2⟩ := o19 m _ (by simp [hc2]; rfl)
    have nx1 := blkAt_len hx1
    have nx2 := blkAt_len hx2
    have g5 : IntKind.i64.wrap ((m : Int) + 1) = (m : Int) + 1 := wrap64 (by omega) (by omega)
    simp [u18, u19, u20, indexAddrV, elemIs, hx1, nx1, hxe1, hxr1, hx2, nx2, hxe2, hxr2, hc2, Out.enc, g5]
    exact hn3 (j2 - 1) _ _ (by omega) ⟨m + 1, by omega, by simp [u0], by simp [u6], by simp [u8], by simp [u18], by simp [u19], by simp, rfl⟩
  simp at hc2
  simp
  refine he3 _ _ _ ?_
  simp [u0]
  refine stpL_runs (drawGates (hsA.keep kD (by simp)) hn) ?_
  rintro _ E ⟨⟨lg, g, fg, rfl, og, hg1, hg6⟩, kE⟩
  have hLg := og.rd.len
  have hTg : lg.take lg.length = lg := List.take_length
  rw [hLg] at hTg
  obtain ⟨E1, hE1⟩ : ∃ E1 : Heap, E1 = E ++ [some ⟨26, .wr, [lg]⟩] := ⟨_, rfl⟩
  have b21 : blkAt E1 E.length = some ⟨26, .wr, [lg]⟩ := by rw [hE1]; simp
  have kE1 : Keep [] A E1 := by rw [hE1]; exact (kD.next kE (by simp)).next (Keep.app [] E _) (by simp)
  have ogE : RdBridge E1 lg g := by rw [hE1]; exact og.rd.app _
  have n21 := blkAt_len b21
  have c8 := kE1.blk bA (by simp)
  have c6 := kE1.blk b6A (by simp)
  have n8E := blkAt_len c8
  have n6E := blkAt_len c6
  have hLl := oA.rd.len
  have hTl : l.take l.length = l := List.take_length
  rw [hLl] at hTl
  have e5 := sameBridgeL (oA.rd.base kE1) (o6A.rd.base kE1) hBz
  simp [hLg, hTg]
  rw [← hE1]
  clear hE1
  simp [u6, u8, c8, c6, n8E, n6E, hL1, hT1, hLl, hTl, e5, b21, n21, hLg, hTg]
  refine stpL_runs_f (implGates_is ogE (by unfold Bridge.sz; omega)) (by rintro _ _ ⟨_, _, _, _, hf⟩; exact hf.1) ?_
  rintro _ _ ⟨q30, f30, rfl, o30, ⟨⟨G30, rfl⟩, -⟩⟩
  have b21a := fun G => blkAt_app b21 G
  simp [b21a, n21, hLg, hTg]
  refine stpL_runs_f (specGates_is (ogE.app G30) (by unfold Bridge.sz; omega)) (by rintro _ _ ⟨_, _, _, _, hf⟩; exact hf.1) ?_
  rintro _ _ ⟨q31, f31, rfl, o31, ⟨⟨G31, rfl⟩, -⟩⟩
  have e6 := sameFlagsL (o30.rd.app G31) o31.rd (by simp [gates]; omega)
  rw [List.append_assoc] at e6
  simp [e6, List.append_assoc]
  refine hQ _ _ _ (by simp) ?_
  simp [Try.f4]
end W
end Go.Proofs.Ytfhaanknijlamaa
