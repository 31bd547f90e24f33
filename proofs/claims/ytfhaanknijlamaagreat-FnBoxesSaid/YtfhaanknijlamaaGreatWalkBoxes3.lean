/- The functions that this law reaches: what each computes. Conditions: those that each theorem names. -/
import Derived.Test.YtfhaanknijlamaaGreatWalkBoxes2
set_option maxRecDepth 100000
set_option maxHeartbeats 4000000
set_option linter.unusedSimpArgs false
set_option linter.unusedVariables false
set_option linter.unnecessarySimpa false
namespace Go.Proofs.YtfhaanknijlamaaGreat
open Go Go.Ab Go.ChangeShapes Go.WideShapes Go.ChangeAt Go.RowKit
namespace W
theorem l15One {H : Heap} {l : List Lf} {x : Box} {fp : List Nat} (hI : IsBox H l x fp) (hok : Small x) (hxok : x.ok = true) (d : Deed) (hkd : 1 ≤ d.kind ∧ d.kind ≤ 12) :
    Runs env 88 [.agg l, .agg d.enc] H fun v H' => ∃ l', v = .tup [.agg l', .lf (.i .i64 (deedD x d).2)] ∧ BoxVal H H' fp l' (deedD x d).1 := by
  have hsz := hok.sz
  have h2 := hok.two
  have hlt := hI.lt
  have hid : H.length ∉ fp := fun h => by have := hlt _ h; omega
  obtain ⟨q0, q1, q2, q3, q4, rfl⟩ : ∃ q0 q1 q2 q3 q4, l = x.enc q0 q1 q2 q3 q4 := by
    obtain ⟨q0, q1, q2, q3, q4, _, _, _, _, _, rfl, -⟩ := hI
    exact ⟨q0, q1, q2, q3, q4, rfl⟩
  obtain ⟨R, hR⟩ : ∃ R, R = deedD x d := ⟨_, rfl⟩
  rw [← hR]
  refine Runs.walk ok88 Tryz.func88 rfl (by simp [Tryz.f88]) fun Q hQ => ?_
  simp only [Tryz.f88, strip, stripL, stripI, stripG, chkT, tagsB, tagsL, tagD, addT, tagA, lookN, tagOp, elmT, ty22, ty26, ty27, ty28, ty29, ty30, ty41, ty53, ty56, Nat.reduceEqDiff, if_false, reduceIte, Option.getD_some, Option.getD_none, dstAt, dstOk, Nat.reduceLT, decide_true, if_true]
  have fin : ∀ (HX : Heap) (tm : Ab.T) (c : Int) (y : Box) (l' : List Lf), R = (y, c) → BoxVal H HX fp l' y → tm 5 = .int c → tm 4 = .ptr (H.length + 2) 0 0 → blkAt HX (H.length + 2) = some ⟨32, .wr, [l']⟩ → Q .ret tm HX := by
    intro HX tm c y l' h1 hv t5 t4 hb4
    have hL' := hv.len
    have hT' : l'.take l'.length = l' := List.take_length
    rw [hL'] at hT'
    refine hQ _ _ _ (by simp) ?_
    have hres : resT env.τ tm HX (Tryz.f88.results.toList) = some [W.agg l', W.lf (.i .i64 c)] := by simp [Tryz.f88, t4, t5, hb4, hL', hT']
    rw [hres, optK_some, h1]
    exact ⟨_, rfl, hv.leave (by simp)⟩
  simp [Box.enc, Deed.enc, Wire.enc]
  obtain ⟨X, hX⟩ : ∃ X : Heap, X = H ++ [some ⟨32, .wr, [[.i .i64 x.id, .i .i64 x.ports, .i .i64 x.reg.epoch, .i .i64 x.reg.owner, .i .i64 x.reg.pair, q0, q1, q2, q3, q4]]⟩, some ⟨66, .wr, [[.i .i64 d.kind, .i .i64 d.a, .i .i64 d.inn.kind, .i .i64 d.inn.port, .i .i64 d.inn.vec.root, .i .i64 d.inn.vec.cost, .i .i64 d.inn.vec.bridge, .i .i64 d.inn.vec.port, .i .i64 d.inn.hops, .b d.inn.up]]⟩, some ⟨32, .wr, [[.i .i64 0, .i .i64 0, .i .i64 0, .i .i64 0, .i .i64 0, .sl none 0, .sl none 0, .sl none 0, .sl none 0, .sl none 0]]⟩] := ⟨_, rfl⟩
  have b0 : blkAt X H.length = some ⟨32, .wr, [[.i .i64 x.id, .i .i64 x.ports, .i .i64 x.reg.epoch, .i .i64 x.reg.owner, .i .i64 x.reg.pair, q0, q1, q2, q3, q4]]⟩ := by rw [hX]; simp
  have d0 := blkAt_len b0
  have bz : blkAt X (H.length + 2) = some ⟨32, .wr, [[.i .i64 0, .i .i64 0, .i .i64 0, .i .i64 0, .i .i64 0, .sl none 0, .sl none 0, .sl none 0, .sl none 0, .sl none 0]]⟩ := by rw [hX]; simp
  have dz := blkAt_len bz
  have bD : blkAt X (H.length + 1) = some ⟨66, .wr, [[.i .i64 d.kind, .i .i64 d.a, .i .i64 d.inn.kind, .i .i64 d.inn.port, .i .i64 d.inn.vec.root, .i .i64 d.inn.vec.cost, .i .i64 d.inn.vec.bridge, .i .i64 d.inn.vec.port, .i .i64 d.inn.hops, .b d.inn.up]]⟩ := by rw [hX]; simp
  have dD := blkAt_len bD
  rw [← hX]
  have kX : Keep [] H X := by rw [hX]; exact Keep.app _ _ _
  have hI1 : IsBox X (x.enc q0 q1 q2 q3 q4) x fp := hI.keep kX (by simp)
  have val : ∀ (HX : Heap) (y : Box), BoxTo X HX H.length fp y → ∃ l', blkAt HX H.length = some ⟨32, .wr, [l']⟩ ∧ l'.length = 10 ∧ l'.take 10 = l' ∧ BoxVal H (HX.set (H.length + 2) (some ⟨32, .wr, [l']⟩)) fp l' y ∧ Keep (H.length :: fp) X HX := by
    intro HX y h
    rw [hX] at h ⊢
    exact h.val hlt (by omega) (by simp)
  have off : ∀ k : Nat, 0 < k → H.length + k ∉ H.length :: fp := fun k hk h => by
    rcases List.mem_cons.1 h with h | h
    · omega
    · have := hlt _ h; omega
  have done : ∀ (HX : Heap) (y : Box) (c : Int) (_ : R = (y, c)) (_ : BoxTo X HX H.length fp y), ∃ l', blkAt HX H.length = some ⟨32, .wr, [l']⟩ ∧ l'.length = 10 ∧ l'.take 10 = l' ∧ H.length < HX.length ∧ H.length + 2 < HX.length ∧ blkAt HX (H.length + 2) = some ⟨32, .wr, [[.i .i64 0, .i .i64 0, .i .i64 0, .i .i64 0, .i .i64 0, .sl none 0, .sl none 0, .sl none 0, .sl none 0, .sl none 0]]⟩ ∧ ∀ tm : Ab.T, tm 5 = .int c → tm 4 = .ptr (H.length + 2) 0 0 → Q .ret tm (HX.set (H.length + 2) (some ⟨32, .wr, [l']⟩)) := by
    intro HX y c h1 h
    obtain ⟨l', v1, v2, v3, v4, v5⟩ := val HX y h
    have hz := v5.blk bz (off _ (by omega))
    have hzl := blkAt_len hz
    exact ⟨l', v1, v2, v3, blkAt_len v1, hzl, hz, fun tm t5 t4 => fin _ tm c y l' h1 v4 t5 t4 (blkAt_set hzl)⟩
  have doneL : ∀ (HX : Heap) (y : Box) (c : Int) (L : List Lf) (_ : R = (y, c)) (_ : blkAt HX H.length = some ⟨32, .wr, [L]⟩) (_ : BoxTo X HX H.length fp y), H.length < HX.length ∧ H.length + 2 < HX.length ∧ blkAt HX (H.length + 2) = some ⟨32, .wr, [[.i .i64 0, .i .i64 0, .i .i64 0, .i .i64 0, .i .i64 0, .sl none 0, .sl none 0, .sl none 0, .sl none 0, .sl none 0]]⟩ ∧ ∀ tm : Ab.T, tm 5 = .int c → tm 4 = .ptr (H.length + 2) 0 0 → Q .ret tm (HX.set (H.length + 2) (some ⟨32, .wr, [L]⟩)) := by
    intro HX y c L h1 hb h
    obtain ⟨l', w1, w2, w3, w4, w5, w6, w7⟩ := done HX y c h1 h
    rw [hb] at w1
    injection w1 with w1
    simp only [Blk.mk.injEq, List.cons.injEq, and_true, true_and] at w1
    subst w1
    exact ⟨w4, w5, w6, w7⟩
  have same : ∀ (G : Heap) (c : Int) (_ : R = (x, c)) (tm : Ab.T), tm 5 = .int c → tm 4 = .ptr (H.length + 2) 0 0 → Q .ret tm ((X ++ G).set (H.length + 2) (some ⟨32, .wr, [[.i .i64 x.id, .i .i64 x.ports, .i .i64 x.reg.epoch, .i .i64 x.reg.owner, .i .i64 x.reg.pair, q0, q1, q2, q3, q4]]⟩)) := by
    intro G c h1 tm t5 t4
    obtain ⟨l', w1, -, -, -, -, -, w7⟩ := done (X ++ G) x c h1 (BoxTo.app b0 hI1 hid G)
    rw [blkAt_app b0] at w1
    injection w1 with w1
    simp only [Blk.mk.injEq, List.cons.injEq, and_true, true_and] at w1
    subst w1
    exact w7 tm t5 t4
  have same0 : ∀ (c : Int) (_ : R = (x, c)) (tm : Ab.T), tm 5 = .int c → tm 4 = .ptr (H.length + 2) 0 0 → Q .ret tm (X.set (H.length + 2) (some ⟨32, .wr, [[.i .i64 x.id, .i .i64 x.ports, .i .i64 x.reg.epoch, .i .i64 x.reg.owner, .i .i64 x.reg.pair, q0, q1, q2, q3, q4]]⟩)) := by
    intro c h1 tm t5 t4
    have := same [] c h1 tm t5 t4
    rwa [List.append_nil] at this
  have sub : ∀ (HZ : Heap) (lz : List Lf) (y : Box), BoxVal X HZ fp lz y → lz.length = 10 ∧ lz.take 10 = lz ∧ blkAt HZ (H.length + 2) = some ⟨32, .wr, [[.i .i64 0, .i .i64 0, .i .i64 0, .i .i64 0, .i .i64 0, .sl none 0, .sl none 0, .sl none 0, .sl none 0, .sl none 0]]⟩ ∧ H.length + 2 < HZ.length ∧ True ∧ ∀ (G : Heap) (c : Int), R = (y, c) → ∀ tm : Ab.T, tm 5 = .int c → tm 4 = .ptr (H.length + 2) 0 0 → Q .ret tm (HZ.set (H.length + 2) (some ⟨32, .wr, [lz]⟩) ++ G) := by
    intro HZ lz y bv
    have hl := bv.len
    obtain ⟨fp', z1, z2, z3⟩ := bv
    have hzz := z2.blk bz (fun h => off 2 (by omega) (by simp [h]))
    have dzz := blkAt_len hzz
    refine ⟨hl, by rw [← hl]; exact List.take_length, hzz, dzz, trivial, fun G c hr tm t5 t4 => ?_⟩
    have hnf : ∀ i ∈ fp', i ∉ [H.length + 2] := fun i hi hj => by
      simp at hj
      rcases z3 i hi with h | h
      · have := hlt i h; omega
      · omega
    refine fin _ tm c y lz hr ⟨fp', (z1.keep (Keep.set _ _) hnf).app G, ?_, fun i hi => ?_⟩ t5 t4 (blkAt_app (blkAt_set dzz) G)
    · exact (((kX.trans z2 (by simp) (fun _ h _ => h)).trans (Keep.set _ _) (fun _ h _ => h) (fun i hi hlt => by simp at hi; omega))).trans (Keep.app [] _ G) (fun _ h _ => h) (by simp)
    · rcases z3 i hi with h | h
      · exact .inl h
      · exact .inr (by have := kX.1; omega)
  have hD := deedD.eq_1 x d
  rw [← hR] at hD
  have hIn := l15In hI1 hok d
  have hSay := l15Say hI1 hok hxok
  have hNet := l15Net hI1 hok hxok d
  simp only [Box.enc, Deed.enc] at hIn hSay hNet
  by_cases c1 : d.kind = 1
  · rw [if_pos c1] at hD
    simp [c1, b0, d0, bD, dD] at hIn ⊢
    refine stpL_runs (hIn) ?_
    rintro _ HZ ⟨lz, rfl, bv⟩
    obtain ⟨x1, x2, x3, x4, x5, x6⟩ := sub HZ lz _ bv
    simp [x1, x2, x3, x4]
    exact x6 _ (inD x d.inn).2 hD _ (by simp) (by simp)
  rw [if_neg c1] at hD
  by_cases c6 : d.kind = 6
  · rw [if_pos c6] at hD
    simp [c6, b0, d0, bD, dD]
    refine stpL_runs (hSay) ?_
    rintro _ HZ ⟨lz, rfl, bv⟩
    obtain ⟨x1, x2, x3, x4, x5, x6⟩ := sub HZ lz _ bv
    simp [x1, x2, x3, x4]
    exact x6 _ (sayD x).2 hD _ (by simp) (by simp)
  rw [if_neg c6] at hD
  by_cases c345 : d.kind = 3 ∨ d.kind = 4 ∨ d.kind = 5
  · rw [if_pos c345] at hD
    have hNet := hNet c345
    rcases c345 with c | c | c
    all_goals
      rw [c] at hNet
      simp [c, b0, d0, bD, dD]
      refine stpL_runs (hNet) ?_
      rintro _ HZ ⟨lz, rfl, bv⟩
      obtain ⟨x1, x2, x3, x4, x5, x6⟩ := sub HZ lz _ bv
      simp [x1, x2, x3, x4]
      exact x6 _ (onWireD x d).2 hD _ (by simp) (by simp)
  rw [if_neg c345] at hD
  have c3 : ¬ d.kind = 3 := fun h => c345 (.inl h)
  have c4 : ¬ d.kind = 4 := fun h => c345 (.inr (.inl h))
  have c5 : ¬ d.kind = 5 := fun h => c345 (.inr (.inr h))
  simp [c1, c6, c3, c4, c5, l1In, bD, dD]
  by_cases hs01 : 0 ≤ d.a ∧ d.a ≤ 1
  · rw [if_neg (by simpa using hs01)] at hD
    obtain ⟨s, hs2, hda⟩ : ∃ s : Nat, s < 2 ∧ d.a = (s : Int) := ⟨d.a.toNat, by omega, by omega⟩
    have h01 : (!decide (0 ≤ d.a) || !decide (d.a ≤ 1)) = false := by simp [hs01]
    rw [h01]
    have hShip := l15Ship hI1 hok hxok s hs2
    have hFall := l15Fall hI1 hok hxok d hs2 hda
    have hReg := l15Reg hI1 hok hxok d hs2 hda
    simp only [Box.enc, Deed.enc] at hShip hFall hReg
    have hD2 := onMinderD.eq_1 x d
    by_cases c2 : d.kind = 2
    · rw [hD2, if_pos c2, hda] at hD
      simp [c2, b0, d0, bD, dD, hda]
      refine stpL_runs (hShip) ?_
      rintro _ HZ ⟨lz, rfl, bv⟩
      obtain ⟨x1, x2, x3, x4, x5, x6⟩ := sub HZ lz _ bv
      simp [x1, x2, x3, x4]
      exact x6 _ (shipD x s).2 hD _ (by simp) (by simp)
    by_cases c7 : d.kind = 7 ∨ d.kind = 8 ∨ d.kind = 12
    · have hFall := hFall c7
      rcases c7 with c | c | c
      all_goals
        rw [c] at hFall
        simp [c, b0, d0, bD, dD]
        refine stpL_runs (hFall) ?_
        rintro _ HZ ⟨lz, rfl, bv⟩
        obtain ⟨x1, x2, x3, x4, x5, x6⟩ := sub HZ lz _ bv
        simp [x1, x2, x3, x4]
        exact x6 _ (onMinderD x d).2 hD _ (by simp) (by simp)
    have c9 : d.kind = 9 ∨ d.kind = 10 ∨ d.kind = 11 := by omega
    have hReg := hReg c9
    rcases c9 with c | c | c
    all_goals
      rw [c] at hReg
      simp [c, b0, d0, bD, dD]
      refine stpL_runs (hReg) ?_
      rintro _ HZ ⟨lz, rfl, bv⟩
      obtain ⟨x1, x2, x3, x4, x5, x6⟩ := sub HZ lz _ bv
      simp [x1, x2, x3, x4]
      exact x6 _ (onMinderD x d).2 hD _ (by simp) (by simp)
  · rw [if_pos hs01] at hD
    have h01 : (!decide (0 ≤ d.a) || !decide (d.a ≤ 1)) = true := by
      rcases Int.lt_or_le d.a 0 with h | h
      · simp [show ¬ 0 ≤ d.a by omega]
      · simp [show ¬ d.a ≤ 1 by omega]
    rw [h01]
    simp [b0, d0, bz, dz]
    exact same0 2 hD _ (by simp) (by simp)

theorem bigL {H : Heap} {a : Option (Nat × Nat)} {n : Nat} : run env 8 [.w (.lf (.sl a n))] H = some (.bool (decide ((1048576 : Int) < n)), H) := by
  refine run_walk ok8 Tryz.func8 rfl (by simp [Tryz.f8]) fun Q hQ => ?_
  simp only [Tryz.f8, strip, stripL, stripI, stripG, chkT, tagsB, tagsL, tagD, addT, tagA, lookN, tagOp, elmT, ty22, ty26, ty27, ty28, ty29, ty30, ty41, ty53, ty56, Nat.reduceEqDiff, if_false, reduceIte, Option.getD_some, Option.getD_none, dstAt, dstOk, Nat.reduceLT, decide_true, if_true]
  simp [builtinV, pureB, lenV]
  refine hQ _ _ _ (by simp) ?_
  simp [Tryz.f8]

def encU (x : Int) : List Lf := [.i .u8 x]
/-- A cursor over n bytes. -/
def Cur (H : Heap) (c n : Nat) : Prop := ∃ (a : Option (Nat × Nat)) (i h : Int) (bs : List Int), blkAt H c = some ⟨113, .wr, [[.sl a n, .i .i64 i, .i .i64 h]]⟩ ∧ 0 ≤ i ∧ i ≤ n ∧ bs.length = n ∧ n ≤ 1048576 ∧ (∀ id r, a = some (id, r) → bs ≠ [] → id < c) ∧ Sl H 5 a (bs.map encU)
theorem Cur.lt {H : Heap} {c n : Nat} (h : Cur H c n) : c < H.length := let ⟨_, _, _, _, h1, _⟩ := h; blkAt_len h1
theorem Cur.keep {H H' : Heap} {c n : Nat} {f : List Nat} (h : Cur H c n) (hk : Keep f H H') (hf : ∀ i ∈ f, c < i) : Cur H' c n := by
  obtain ⟨a, i, h, bs, h1, h2, h3, h4, h5, h6, h7⟩ := h
  have hlt := blkAt_len h1
  refine ⟨a, i, h, bs, hk.blk h1 (fun hc => by have := hf c hc; omega), h2, h3, h4, h5, h6, ?_⟩
  by_cases hb : bs = []
  · subst hb; exact Sl.nil _ _ _
  · exact h7.keep hk (fun id r he hi => by have := hf id hi; have := h6 id r he hb; omega)
theorem Cur.app {H : Heap} {c n : Nat} (h : Cur H c n) (G : Heap) : Cur (H ++ G) c n := h.keep (Keep.app [] H G) (by simp)
theorem Cur.ne {H : Heap} {c n id : Nat} {b : Blk} (h : Cur H c n) (hb : blkAt H id = some b) (he : b.elem ≠ 113) : id ≠ c := by
  obtain ⟨a, i, h, bs, h1, -⟩ := h
  rintro rfl
  rw [h1] at hb
  injection hb with hb
  rw [← hb] at he
  exact he rfl
/-- From H to H' the cursor may have gone on, nothing else that was has turned. -/
def CurTo (H H' : Heap) (c n : Nat) : Prop := Keep [c] H H' ∧ Cur H' c n
theorem CurTo.refl {H : Heap} {c n : Nat} (h : Cur H c n) : CurTo H H c n := ⟨Keep.refl _ _, h⟩
theorem CurTo.app {H H' : Heap} {c n : Nat} (h : CurTo H H' c n) (G : Heap) : CurTo H (H' ++ G) c n := ⟨h.1.trans (Keep.app [] _ G) (fun _ h _ => h) (by simp), h.2.app G⟩
theorem CurTo.next {H H1 H2 : Heap} {c n : Nat} (h : CurTo H H1 c n) (h2 : CurTo H1 H2 c n) : CurTo H H2 c n := ⟨h.1.trans h2.1 (fun _ h _ => h) (fun _ h _ => h), h2.2⟩
theorem CurTo.base {H G H' : Heap} {c n : Nat} (h : CurTo (H ++ G) H' c n) : CurTo H H' c n := ⟨h.1.base, h.2⟩
theorem CurTo.set {H H' : Heap} {c n : Nat} (h : CurTo H H' c n) {id : Nat} (hid : H.length ≤ id) (hc : c < id) (y : Option Blk) : CurTo H (H'.set id y) c n :=
  ⟨h.1.trans (Keep.set _ _) (fun _ h _ => h) (fun i hi hlt => by simp at hi; omega), h.2.keep (Keep.set _ _) (by simpa using hc)⟩
theorem CurTo.own {H H' H2 : Heap} {c n : Nat} (h : CurTo H H' c n) {f : List Nat} (hk : Keep f H' H2) (hf : ∀ i ∈ f, H.length ≤ i) (hc : c < H.length) : CurTo H H2 c n :=
  ⟨h.1.trans hk (fun _ h _ => h) (fun i hi hlt => by have := hf i hi; omega), h.2.keep hk (fun i hi => by have := hf i hi; omega)⟩
theorem CurTo.leave {H H' : Heap} {c n : Nat} (h : CurTo H H' c n) (hc : Cur H c n) (ws : List W) : CurTo H (Go.Ab.leave H H' ws) c n := by
  rcases leave_or H H' ws with e | ⟨e, -⟩ <;> rw [e]
  · exact h
  · exact CurTo.refl hc
theorem CurTo.len {H H' : Heap} {c n : Nat} (h : CurTo H H' c n) : H.length ≤ H'.length := h.1.1
/-- Of what was there only the cursor's block turned. -/
theorem CurTo.only {H H' : Heap} {c n : Nat} (h : CurTo H H' c n) (hc : Cur H c n) : onlyT (some 113) H H' = true := by
  unfold onlyT
  simp only [List.all_eq_true, List.mem_range, Bool.or_eq_true, decide_eq_true_eq]
  intro id hid
  by_cases he : id = c
  · subst he
    obtain ⟨a, i, h0, bs, h1, -⟩ := hc
    obtain ⟨a', i', h0', bs', h1', -⟩ := h.2
    have e1 := blkAt_some h1
    have e2 := blkAt_some h1'
    right
    rw [e1, e2]
    rfl
  · exact .inl (h.1.2 id hid (by simpa using he))

/-- A call of a function that draws. -/
theorem stpL_cur {call : Fun} {draw : Bool} {tm : Ab.T} {H : Heap} {Q : Ex → Ab.T → Heap → Prop} {fr : List Fr} {is : List I2} {f : Nat} {args : List V} {d : Option Nat} {K : V → Heap → Prop} {x y : List (Nat × Nat × Nat)} {c n : Nat} (h : Runs env f args H K) (hc : Cur H c n) (hto : ∀ v H', K v H' → CurTo H H' c n)
    (hk : ∀ v H', K v H' → stpL env call (some (v, H')) d draw is fr tm Q) (hw : env.wr f = true := by rfl) (hn : env.wt f = some 113 := by rfl) : stpL env call (guardCall env draw (.w (.lf (.fn f x y))) H (run env f args H)) d draw is fr tm Q := by
  obtain ⟨v, H', hr, hK⟩ := h
  have : guardCall env draw (.w (.lf (.fn f x y))) H (run env f args H) = some (v, H') := by
    rw [hr]
    unfold guardCall
    split
    · rfl
    · have h1 := hto v H' hK
      simp [hw, hn, h1.len, h1.only hc]
  rw [this]
  exact hk v H' hK

theorem and255 (a : Int) : 0 ≤ IntKind.i64.wrap ((BitVec.ofInt 64 a &&& 255#64).toNat : Nat) ∧ IntKind.i64.wrap ((BitVec.ofInt 64 a &&& 255#64).toNat : Nat) ≤ 255 := by
  have h : (BitVec.ofInt 64 a &&& 255#64).toNat ≤ 255 := by
    rw [BitVec.toNat_and]
    exact Nat.le_trans Nat.and_le_right (by decide)
  rw [wrap64 (by omega) (by omega)]
  omega
theorem l1Byte {H : Heap} {c n : Nat} (hc : Cur H c n) : Runs env 107 [.ptr c 0 0] H fun v H' => (∃ x : Int, v = .int x ∧ 0 ≤ x ∧ x ≤ 255) ∧ CurTo H H' c n := by
  have hc0 := hc
  obtain ⟨a, i, h, bs, h1, h2, h3, h4, h5, h6, h7⟩ := hc
  have hl := blkAt_len h1
  refine Runs.walk ok107 Tryz.func107 rfl (by simp [Tryz.f107]) fun Q hQ => ?_
  simp only [Tryz.f107, strip, stripL, stripI, stripG, chkT, tagsB, tagsL, tagD, addT, tagA, lookN, tagOp, elmT, ty22, ty26, ty27, ty28, ty29, ty30, ty41, ty53, ty56, Nat.reduceEqDiff, if_false, reduceIte, Option.getD_some, Option.getD_none, dstAt, dstOk, Nat.reduceLT, decide_true, if_true]
  have hset : ∀ y : Blk, blkAt (H.set c (some y)) c = some y := fun y => blkAt_set hl
  have hto : ∀ (i' h' : Int), 0 ≤ i' → i' ≤ n → CurTo H (H.set c (some ⟨113, .wr, [[.sl a n, .i .i64 i', .i .i64 h']]⟩)) c n := fun i' h' g1 g2 =>
    ⟨Keep.set _ _, a, i', h', bs, hset _, g1, g2, h4, h5, h6, by
      by_cases hb : bs = []
      · subst hb; exact Sl.nil _ _ _
      · exact h7.keep (Keep.set _ _) (fun id r he hi => by have := h6 id r he hb; simp at hi; omega)⟩
  simp [h1, hl, hset, builtinV, pureB, lenV, binV, binInt, cmpI, arI, IntKind.bits]
  refine selS_intro (fun hc1 => ?_) (fun hc1 => ?_)
  · simp at hc1
    obtain ⟨k, rfl⟩ : ∃ k : Nat, i = (k : Int) := ⟨i.toNat, by omega⟩
    have hk : k < bs.length := by omega
    obtain ⟨id3, r3, bl3, rfl, hb3, hbe3, hrow3⟩ := h7 k _ (by rw [List.getElem?_map, List.getElem?_eq_getElem hk]; rfl)
    have hid3 := blkAt_len hb3
    have hlt3 : id3 < c := h6 id3 r3 rfl (by rintro rfl; simp at hk)
    have hse : ∀ y : Option Blk, blkAt (H.set c y) id3 = some bl3 := fun y => by rw [blkAt_set_ne (by omega)]; exact hb3
    have hkn : k < n := by omega
    have hkI : (k : Int) < n := by omega
    have hw : IntKind.i64.wrap ((k : Int) + 1) = (k : Int) + 1 := wrap64 (by omega) (by omega)
    simp [hset, hl, hse, hid3, hbe3, hrow3, indexAddrV, elemIs, hkn, hkI, encU, binV, binInt, cmpI, arI, IntKind.bits, convV, hw]
    refine hQ _ _ _ (by simp) ?_
    simp [Tryz.f107]
    exact ⟨and255 _, (hto _ _ (by omega) (by omega)).leave hc0 _⟩
  · simp at hc1
    simp
    refine hQ _ _ _ (by simp) ?_
    simp [Tryz.f107]
    exact ⟨and255 _, (hto _ _ h2 h3).leave hc0 _⟩

theorem tmod_le {s k : Int} (hs : 0 ≤ s) (hk : 0 < k) : s.tmod k ≤ s := by
  rw [Int.tmod_eq_emod_of_nonneg hs]
  obtain ⟨a, rfl⟩ := Int.eq_ofNat_of_zero_le hs
  obtain ⟨b, rfl⟩ := Int.eq_ofNat_of_zero_le (show 0 ≤ k by omega)
  have := Nat.mod_le a b
  omega
theorem l1Below {H : Heap} {c n : Nat} (hc : Cur H c n) (k : Int) : Runs env 66 [.ptr c 0 0, .int k] H fun v H' => (∃ x : Int, v = .int x ∧ 0 ≤ x ∧ (0 < k → x < k) ∧ x ≤ 4294967295) ∧ CurTo H H' c n := by
  refine Runs.walk ok66 Tryz.func66 rfl (by simp [Tryz.f66]) fun Q hQ => ?_
  simp only [Tryz.f66, strip, stripL, stripI, stripG, chkT, tagsB, tagsL, tagD, addT, tagA, lookN, tagOp, elmT, ty22, ty26, ty27, ty28, ty29, ty30, ty41, ty53, ty56, Nat.reduceEqDiff, if_false, reduceIte, Option.getD_some, Option.getD_none, dstAt, dstOk, Nat.reduceLT, decide_true, if_true]
  have fin : ∀ (HF : Heap) (tm : Ab.T) (x : Int), tm 4 = .int x → 0 ≤ x → (0 < k → x < k) → x ≤ 4294967295 → CurTo H HF c n → Q .ret tm HF := by
    intro HF tm x t4 h1 h2 h3 hto
    refine hQ _ _ _ (by simp) ?_
    simp [Tryz.f66, t4]
    exact ⟨⟨h1, h2, h3⟩, hto.leave hc _⟩
  simp
  by_cases hk : k ≤ 0
  · simp [hk]
    exact fin _ _ 0 (by simp) (by omega) (by omega) (by omega) (CurTo.refl hc)
  have hk0 : ¬ k = 0 := by omega
  simp [hk]
  by_cases hk2 : k ≤ 256
  · simp [hk2]
    refine stpL_runs (l1Byte hc) ?_
    rintro _ H1 ⟨⟨x, rfl, hx1, hx2⟩, hto⟩
    simp [hk0]
    have h1 := Int.tmod_nonneg k hx1
    have h2 := Int.tmod_lt_of_pos x (show 0 < k by omega)
    exact fin _ _ (x.tmod k) (by simp) h1 (fun _ => h2) (by omega) hto
  · simp [hk2]
    refine stpL_runs (l1Byte hc) ?_
    rintro _ H1 ⟨⟨x, rfl, hx1, hx2⟩, hto1⟩
    simp
    refine stpL_runs (l1Byte hto1.2) ?_
    rintro _ H2 ⟨⟨y, rfl, hy1, hy2⟩, hto2⟩
    simp
    refine stpL_runs (l1Byte hto2.2) ?_
    rintro _ H3 ⟨⟨z, rfl, hz1, hz2⟩, hto3⟩
    simp
    refine stpL_runs (l1Byte hto3.2) ?_
    rintro _ H4 ⟨⟨w, rfl, hw1, hw2⟩, hto4⟩
    have g1 : IntKind.i64.wrap (x * 16777216) = x * 16777216 := wrap64 (by omega) (by omega)
    have g2 : IntKind.i64.wrap (y * 65536) = y * 65536 := wrap64 (by omega) (by omega)
    have g3 : IntKind.i64.wrap (x * 16777216 + y * 65536) = x * 16777216 + y * 65536 := wrap64 (by omega) (by omega)
    have g4 : IntKind.i64.wrap (z * 256) = z * 256 := wrap64 (by omega) (by omega)
    have g5 : IntKind.i64.wrap (x * 16777216 + y * 65536 + z * 256) = x * 16777216 + y * 65536 + z * 256 := wrap64 (by omega) (by omega)
    have g6 : IntKind.i64.wrap (x * 16777216 + y * 65536 + z * 256 + w) = x * 16777216 + y * 65536 + z * 256 + w := wrap64 (by omega) (by omega)
    simp [hk0, g1, g2, g3, g4, g5, g6]
    obtain ⟨s, hs⟩ : ∃ s, s = x * 16777216 + y * 65536 + z * 256 + w := ⟨_, rfl⟩
    have hs0 : 0 ≤ s := by omega
    have h1 := Int.tmod_nonneg k hs0
    have h2 := Int.tmod_lt_of_pos s (show 0 < k by omega)
    have h3 : s.tmod k ≤ s := tmod_le hs0 (by omega)
    refine fin _ _ (s.tmod k) ?_ h1 (fun _ => h2) (by omega) (((hto1.next hto2).next hto3).next hto4)
    simp [hs]

theorem l1Once {H : Heap} {c n : Nat} (hc : Cur H c n) (k : Int) : Runs env 108 [.ptr c 0 0, .int k] H fun v H' => (∃ b : Bool, v = .bool b) ∧ CurTo H H' c n := by
  refine Runs.walk ok108 Tryz.func108 rfl (by simp [Tryz.f108]) fun Q hQ => ?_
  simp only [Tryz.f108, strip, stripL, stripI, stripG, chkT, tagsB, tagsL, tagD, addT, tagA, lookN, tagOp, elmT, ty22, ty26, ty27, ty28, ty29, ty30, ty41, ty53, ty56, Nat.reduceEqDiff, if_false, reduceIte, Option.getD_some, Option.getD_none, dstAt, dstOk, Nat.reduceLT, decide_true, if_true]
  simp
  refine stpL_runs (l1Below hc k) ?_
  rintro _ H1 ⟨⟨x, rfl, hx1, hx2⟩, hto⟩
  simp
  refine hQ _ _ _ (by simp) ?_
  simp [Tryz.f108]
  exact ⟨by omega, hto.leave hc _⟩

theorem l1PickInt {H : Heap} {c n : Nat} (hc : Cur H c n) {a : Option (Nat × Nat)} {xs : List Int} (hs : Sl H 3 a (xs.map encI)) (hx : xs ≠ []) (hlen : xs.length ≤ 1048576) :
    Runs env 68 [.ptr c 0 0, .w (.lf (.sl a xs.length))] H fun v H' => (∃ x : Int, v = .int x ∧ x ∈ xs) ∧ CurTo H H' c n := by
  have hpos : 0 < xs.length := List.length_pos_iff.2 hx
  refine Runs.walk ok68 Tryz.func68 rfl (by simp [Tryz.f68]) fun Q hQ => ?_
  simp only [Tryz.f68, strip, stripL, stripI, stripG, chkT, tagsB, tagsL, tagD, addT, tagA, lookN, tagOp, elmT, ty22, ty26, ty27, ty28, ty29, ty30, ty41, ty53, ty56, Nat.reduceEqDiff, if_false, reduceIte, Option.getD_some, Option.getD_none, dstAt, dstOk, Nat.reduceLT, decide_true, if_true]
  simp [builtinV, pureB, lenV]
  refine stpL_runs (l1Below hc xs.length) ?_
  rintro _ H1 ⟨⟨x, rfl, hx1, hx2, -⟩, hto⟩
  have hxl := hx2 (by omega)
  obtain ⟨k, rfl⟩ : ∃ k : Nat, x = (k : Int) := ⟨x.toNat, by omega⟩
  have hk : k < xs.length := by omega
  obtain ⟨id3, r3, bl3, rfl, hb3, hbe3, hrow3⟩ := hs k _ (by rw [List.getElem?_map, List.getElem?_eq_getElem hk]; rfl)
  have hne := hc.ne hb3 (by rw [hbe3]; decide)
  have hb4 := hto.1.blk hb3 (by simpa using hne)
  have hid4 := blkAt_len hb4
  have hkI : (k : Int) < xs.length := by omega
  simp [hb4, hid4, hbe3, hrow3, indexAddrV, elemIs, hk, hkI, encI]
  refine hQ _ _ _ (by simp) ?_
  simp [Tryz.f68]
  exact hto.leave hc _

theorem l6DrawRight {H : Heap} {c n : Nat} (hc : Cur H c n) : Runs env 141 [.ptr c 0 0] H fun v H' => (∃ x : Vec, v = .agg x.enc) ∧ CurTo H H' c n := by
  have hcl := hc.lt
  refine Runs.walk ok141 Tryz.func141 rfl (by simp [Tryz.f141]) fun Q hQ => ?_
  simp only [Tryz.f141, strip, stripL, stripI, stripG, chkT, tagsB, tagsL, tagD, addT, tagA, lookN, tagOp, elmT, ty22, ty26, ty27, ty28, ty29, ty30, ty41, ty53, ty56, Nat.reduceEqDiff, if_false, reduceIte, Option.getD_some, Option.getD_none, dstAt, dstOk, Nat.reduceLT, decide_true, if_true]
  have fin : ∀ (HF : Heap) (tm : Ab.T) (x : Vec), tm 2 = .ptr H.length 0 0 → blkAt HF H.length = some ⟨60, .wr, [x.enc]⟩ → CurTo H HF c n → Q .ret tm HF := by
    intro HF tm x t2 hb hto
    refine hQ _ _ _ (by simp) ?_
    have hres : resT env.τ tm HF (Tryz.f141.results.toList) = some [W.agg x.enc] := by simp [Tryz.f141, t2, hb]
    rw [hres, optK_some]
    exact ⟨⟨x, rfl⟩, hto.leave hc _⟩
  have hcX := hc.app [some ⟨60, .wr, [[.i .i64 0, .i .i64 0, .i .i64 0, .i .i64 0]]⟩]
  have bzX : blkAt (H ++ [some ⟨60, .wr, [[.i .i64 0, .i .i64 0, .i .i64 0, .i .i64 0]]⟩]) H.length = some ⟨60, .wr, [[.i .i64 0, .i .i64 0, .i .i64 0, .i .i64 0]]⟩ := by simp
  have hlX : (H ++ [some ⟨60, .wr, [[.i .i64 0, .i .i64 0, .i .i64 0, .i .i64 0]]⟩] : Heap).length = H.length + 1 := by simp
  simp
  refine stpL_runs (l1Below hcX 4) ?_
  rintro _ H1 ⟨⟨x, rfl, hx⟩, hto1⟩
  simp
  refine stpL_runs (l1Below hto1.2 4) ?_
  rintro _ H2 ⟨⟨y, rfl, hy⟩, hto2⟩
  have hto := hto1.next hto2
  have bz2 := hto.1.blk bzX (by simp; omega)
  have dz2 := blkAt_len bz2
  have hcc2 := hto.base
  have hl2 := hto.len
  rw [hlX] at hl2
  obtain ⟨r, hr⟩ : ∃ r, r = IntKind.i64.wrap (1 + x) := ⟨_, rfl⟩
  simp [← hr]
  have hcM := hto.2.app [some ⟨60, .wr, [[.i .i64 r, .i .i64 0, .i .i64 0, .i .i64 y]]⟩]
  refine stpL_cur (l1Below hcM 3) hcM (fun v H' h => h.2) ?_
  rintro _ H3 ⟨⟨z, rfl, hz⟩, hto3⟩
  have b3 : blkAt H3 H2.length = some ⟨60, .wr, [[.i .i64 r, .i .i64 0, .i .i64 0, .i .i64 y]]⟩ := hto3.1.blk (by simp) (by simp; omega)
  have bz3 := hto3.1.blk (blkAt_app bz2 _) (by simp; omega)
  have d3 := blkAt_len b3
  have dz3 := blkAt_len bz3
  have hcc3 := hcc2.next hto3.base
  obtain ⟨g, hg⟩ : ∃ g, g = IntKind.i64.wrap (r + z) := ⟨_, rfl⟩
  have hset : ∀ (Y : Heap) (y : Blk), H2.length < Y.length → blkAt (List.set Y H2.length (some y)) H2.length = some y := fun Y y h => blkAt_set h
  have hne3 : ∀ (Y : Heap) (y : Option Blk), blkAt (List.set Y H2.length y) H.length = blkAt Y H.length := fun Y y => blkAt_set_ne (by omega)
  simp [b3, d3, ← hg, hset]
  refine selS_intro (fun hq => ?_) (fun hq => ?_)
  · simp
    have hcS := (hcc3.set (id := H2.length) (by omega) (by omega) (some ⟨60, .wr, [[.i .i64 r, .i .i64 0, .i .i64 g, .i .i64 y]]⟩))
    refine stpL_runs (l1Below hcS.2 3) ?_
    rintro _ H4 ⟨⟨u, rfl, hu⟩, hto4⟩
    have b4 := hto4.1.blk (blkAt_set d3) (by simp; omega)
    have bz4 := hto4.1.blk (show blkAt (H3.set H2.length _) H.length = _ from (hne3 _ _).trans bz3) (by simp; omega)
    have d4 := blkAt_len b4
    have dz4 := blkAt_len bz4
    have hcc4 := hcS.next hto4
    simp [b4, d4, bz4, dz4, hset, hne3]
    refine fin _ _ ⟨_, _, _, _⟩ ?_ (blkAt_set (Nat.lt_of_lt_of_eq dz4 (List.length_set).symm)) ((hcc4.set (by omega) (by omega) _).set (by omega) (by omega) _)
    simp
  · simp [b3, d3, bz3, dz3, hset, hne3]
    refine fin _ _ ⟨_, _, _, _⟩ ?_ (blkAt_set (Nat.lt_of_lt_of_eq dz3 (List.length_set).symm)) ((hcc3.set (by omega) (by omega) _).set (by omega) (by omega) _)
    simp

theorem l6Draw {H : Heap} {c n : Nat} (hc : Cur H c n) : Runs env 125 [.ptr c 0 0] H fun v H' => (∃ x : Vec, v = .agg x.enc) ∧ CurTo H H' c n := by
  have hcl := hc.lt
  refine Runs.walk ok125 Tryz.func125 rfl (by simp [Tryz.f125]) fun Q hQ => ?_
  simp only [Tryz.f125, strip, stripL, stripI, stripG, chkT, tagsB, tagsL, tagD, addT, tagA, lookN, tagOp, elmT, ty22, ty26, ty27, ty28, ty29, ty30, ty41, ty53, ty56, Nat.reduceEqDiff, if_false, reduceIte, Option.getD_some, Option.getD_none, dstAt, dstOk, Nat.reduceLT, decide_true, if_true]
  have fin : ∀ (HF : Heap) (tm : Ab.T) (x : Vec), tm 2 = .ptr H.length 0 0 → blkAt HF H.length = some ⟨60, .wr, [x.enc]⟩ → CurTo H HF c n → Q .ret tm HF := by
    intro HF tm x t2 hb hto
    refine hQ _ _ _ (by simp) ?_
    have hres : resT env.τ tm HF (Tryz.f125.results.toList) = some [W.agg x.enc] := by simp [Tryz.f125, t2, hb]
    rw [hres, optK_some]
    exact ⟨⟨x, rfl⟩, hto.leave hc _⟩
  have hcX := hc.app [some ⟨60, .wr, [[.i .i64 0, .i .i64 0, .i .i64 0, .i .i64 0]]⟩]
  have bzX : blkAt (H ++ [some ⟨60, .wr, [[.i .i64 0, .i .i64 0, .i .i64 0, .i .i64 0]]⟩]) H.length = some ⟨60, .wr, [[.i .i64 0, .i .i64 0, .i .i64 0, .i .i64 0]]⟩ := by simp
  have hlX : (H ++ [some ⟨60, .wr, [[.i .i64 0, .i .i64 0, .i .i64 0, .i .i64 0]]⟩] : Heap).length = H.length + 1 := by simp
  simp
  refine stpL_runs (l6DrawRight hcX) ?_
  rintro _ H1 ⟨⟨x, rfl⟩, hto1⟩
  have bz1 := hto1.1.blk bzX (by simp; omega)
  have dz1 := blkAt_len bz1
  have hcc1 := hto1.base
  have hl1 := hto1.len
  rw [hlX] at hl1
  simp [Vec.enc]
  have hcM := hto1.2.app [some ⟨60, .wr, [[.i .i64 x.root, .i .i64 x.cost, .i .i64 x.bridge, .i .i64 x.port]]⟩]
  refine stpL_runs (l1Below hcM 10) ?_
  rintro _ H2 ⟨⟨k, rfl, -⟩, hto2⟩
  have b3 : blkAt H2 H1.length = some ⟨60, .wr, [[.i .i64 x.root, .i .i64 x.cost, .i .i64 x.bridge, .i .i64 x.port]]⟩ := hto2.1.blk (by simp) (by simp; omega)
  have bz2 := hto2.1.blk (blkAt_app bz1 _) (by simp; omega)
  have d3 := blkAt_len b3
  have dz2 := blkAt_len bz2
  have hcc2 := hcc1.next hto2.base
  have hne3 : ∀ (Y : Heap) (y : Option Blk), blkAt (List.set Y H1.length y) H.length = blkAt Y H.length := fun Y y => blkAt_set_ne (by omega)
  have hne4 : ∀ (Y : Heap) (y : Blk), H1.length < Y.length → blkAt (List.set Y H1.length (some y)) H1.length = some y := fun Y y h => blkAt_set h
  by_cases c0 : k = 0
  · simp [c0]
    have hcL := hto2.2.app [some ⟨3, .wr, [encI 0, encI 9, encI 10]⟩]
    simp only [encI] at hcL
    refine stpL_runs (l1PickInt (xs := [0, 9, 10]) hcL (Sl.of (by simp [encI])) (by simp) (by simp)) ?_
    rintro _ H3 ⟨⟨y, rfl, -⟩, hto3⟩
    have hto3 := hto3.base
    have b33 := hto3.1.blk b3 (by simp; omega)
    have bz3 := hto3.1.blk bz2 (by simp; omega)
    have d33 := blkAt_len b33
    have dz3 := blkAt_len bz3
    have hcc3 := hcc2.next hto3
    simp [b33, d33, bz3, dz3, hne3, hne4, Vec.enc]
    refine fin _ _ ⟨y, x.cost, x.bridge, x.port⟩ ?_ (blkAt_set (Nat.lt_of_lt_of_eq dz3 (List.length_set).symm)) ((hcc3.set (by omega) (by omega) _).set (by omega) (by omega) _)
    simp
  by_cases c1 : k = 1
  · simp [c1]
    have hcL := hto2.2.app [some ⟨3, .wr, [encI (-1), encI 0, encI 20, encI 21]⟩]
    simp only [encI] at hcL
    refine stpL_runs (l1PickInt (xs := [(-1), 0, 20, 21]) hcL (Sl.of (by simp [encI])) (by simp) (by simp)) ?_
    rintro _ H3 ⟨⟨y, rfl, -⟩, hto3⟩
    have hto3 := hto3.base
    have b33 := hto3.1.blk b3 (by simp; omega)
    have bz3 := hto3.1.blk bz2 (by simp; omega)
    have d33 := blkAt_len b33
    have dz3 := blkAt_len bz3
    have hcc3 := hcc2.next hto3
    simp [b33, d33, bz3, dz3, hne3, hne4, Vec.enc]
    refine fin _ _ ⟨x.root, y, x.bridge, x.port⟩ ?_ (blkAt_set (Nat.lt_of_lt_of_eq dz3 (List.length_set).symm)) ((hcc3.set (by omega) (by omega) _).set (by omega) (by omega) _)
    simp
  by_cases c2 : k = 2
  · simp [c2]
    have hcL := hto2.2.app [some ⟨3, .wr, [encI 0, encI 9, encI 10]⟩]
    simp only [encI] at hcL
    refine stpL_runs (l1PickInt (xs := [0, 9, 10]) hcL (Sl.of (by simp [encI])) (by simp) (by simp)) ?_
    rintro _ H3 ⟨⟨y, rfl, -⟩, hto3⟩
    have hto3 := hto3.base
    have b33 := hto3.1.blk b3 (by simp; omega)
    have bz3 := hto3.1.blk bz2 (by simp; omega)
    have d33 := blkAt_len b33
    have dz3 := blkAt_len bz3
    have hcc3 := hcc2.next hto3
    simp [b33, d33, bz3, dz3, hne3, hne4, Vec.enc]
    refine fin _ _ ⟨x.root, x.cost, y, x.port⟩ ?_ (blkAt_set (Nat.lt_of_lt_of_eq dz3 (List.length_set).symm)) ((hcc3.set (by omega) (by omega) _).set (by omega) (by omega) _)
    simp
  by_cases c3 : k = 3
  · simp [c3]
    have hcL := hto2.2.app [some ⟨3, .wr, [encI (-1), encI 3, encI 4]⟩]
    simp only [encI] at hcL
    refine stpL_runs (l1PickInt (xs := [(-1), 3, 4]) hcL (Sl.of (by simp [encI])) (by simp) (by simp)) ?_
    rintro _ H3 ⟨⟨y, rfl, -⟩, hto3⟩
    have hto3 := hto3.base
    have b33 := hto3.1.blk b3 (by simp; omega)
    have bz3 := hto3.1.blk bz2 (by simp; omega)
    have d33 := blkAt_len b33
    have dz3 := blkAt_len bz3
    have hcc3 := hcc2.next hto3
    simp [b33, d33, bz3, dz3, hne3, hne4, Vec.enc]
    refine fin _ _ ⟨x.root, x.cost, x.bridge, y⟩ ?_ (blkAt_set (Nat.lt_of_lt_of_eq dz3 (List.length_set).symm)) ((hcc3.set (by omega) (by omega) _).set (by omega) (by omega) _)
    simp
  simp [c0, c1, c2, c3, b3, d3, bz2, dz2]
  refine fin _ _ ⟨_, _, _, _⟩ ?_ (blkAt_set dz2) (hcc2.set (by omega) (by omega) _)
  simp

theorem l8DrawIn {H : Heap} {c n : Nat} (hc : Cur H c n) : Runs env 109 [.ptr c 0 0] H fun v H' => (∃ x : In, v = .agg x.enc) ∧ CurTo H H' c n := by
  have hcl := hc.lt
  refine Runs.walk ok109 Tryz.func109 rfl (by simp [Tryz.f109]) fun Q hQ => ?_
  simp only [Tryz.f109, strip, stripL, stripI, stripG, chkT, tagsB, tagsL, tagD, addT, tagA, lookN, tagOp, elmT, ty22, ty26, ty27, ty28, ty29, ty30, ty41, ty53, ty56, Nat.reduceEqDiff, if_false, reduceIte, Option.getD_some, Option.getD_none, dstAt, dstOk, Nat.reduceLT, decide_true, if_true]
  have fin : ∀ (HF : Heap) (tm : Ab.T) (x : In), tm 2 = .ptr H.length 0 0 → blkAt HF H.length = some ⟨64, .wr, [x.enc]⟩ → CurTo H HF c n → Q .ret tm HF := by
    intro HF tm x t2 hb hto
    refine hQ _ _ _ (by simp) ?_
    have hres : resT env.τ tm HF (Tryz.f109.results.toList) = some [W.agg x.enc] := by simp [Tryz.f109, t2, hb]
    rw [hres, optK_some]
    exact ⟨⟨x, rfl⟩, hto.leave hc _⟩
  have hcX := hc.app [some ⟨64, .wr, [[.i .i64 0, .i .i64 0, .i .i64 0, .i .i64 0, .i .i64 0, .i .i64 0, .i .i64 0, .b false]]⟩]
  have bzX : blkAt (H ++ [some ⟨64, .wr, [[.i .i64 0, .i .i64 0, .i .i64 0, .i .i64 0, .i .i64 0, .i .i64 0, .i .i64 0, .b false]]⟩]) H.length = some ⟨64, .wr, [[.i .i64 0, .i .i64 0, .i .i64 0, .i .i64 0, .i .i64 0, .i .i64 0, .i .i64 0, .b false]]⟩ := by simp
  have hlX : (H ++ [some ⟨64, .wr, [[.i .i64 0, .i .i64 0, .i .i64 0, .i .i64 0, .i .i64 0, .i .i64 0, .i .i64 0, .b false]]⟩] : Heap).length = H.length + 1 := by simp
  simp
  refine stpL_runs (l1Below hcX 4) ?_
  rintro _ H1 ⟨⟨p, rfl, -⟩, hto1⟩
  have bz1 := hto1.1.blk bzX (by simp; omega)
  have hcc1 := hto1.base
  have hl1 := hto1.len
  rw [hlX] at hl1
  simp
  refine stpL_runs (l1Below hto1.2 4) ?_
  rintro _ H2 ⟨⟨k, rfl, -⟩, hto2⟩
  have bz2 := hto2.1.blk bz1 (by simp; omega)
  have dz2 := blkAt_len bz2
  have hcc2 := hcc1.next hto2
  by_cases c0 : k = 0
  · simp [c0, bz2, dz2]
    refine fin _ _ ⟨_, _, ⟨_, _, _, _⟩, _, _⟩ ?_ (blkAt_set dz2) (hcc2.set (by omega) (by omega) _)
    simp
  by_cases c1 : k = 1
  · simp [c1]
    refine stpL_runs (l1Once hto2.2 3) ?_
    rintro _ H3 ⟨⟨b, rfl⟩, hto3⟩
    have bz3 := hto3.1.blk bz2 (by simp; omega)
    have dz3 := blkAt_len bz3
    simp [bz3, dz3]
    refine fin _ _ ⟨_, _, ⟨_, _, _, _⟩, _, _⟩ ?_ (blkAt_set dz3) ((hcc2.next hto3).set (by omega) (by omega) _)
    simp
  simp [c0, c1]
  refine stpL_runs (l6DrawRight hto2.2) ?_
  rintro _ H3 ⟨⟨v, rfl⟩, hto3⟩
  have bz3 := hto3.1.blk bz2 (by simp; omega)
  simp
  refine stpL_runs (l1Below hto3.2 4) ?_
  rintro _ H4 ⟨⟨h, rfl, -⟩, hto4⟩
  have bz4 := hto4.1.blk bz3 (by simp; omega)
  have dz4 := blkAt_len bz4
  simp [bz4, dz4, Vec.enc]
  refine fin _ _ ⟨_, _, ⟨_, _, _, _⟩, _, _⟩ ?_ (blkAt_set dz4) (((hcc2.next hto3).next hto4).set (by omega) (by omega) _)
  simp

theorem l8DrawBent {H : Heap} {c n : Nat} (hc : Cur H c n) : Runs env 92 [.ptr c 0 0] H fun v H' => (∃ x : In, v = .agg x.enc) ∧ CurTo H H' c n := by
  have hcl := hc.lt
  refine Runs.walk ok92 Tryz.func92 rfl (by simp [Tryz.f92]) fun Q hQ => ?_
  simp only [Tryz.f92, strip, stripL, stripI, stripG, chkT, tagsB, tagsL, tagD, addT, tagA, lookN, tagOp, elmT, ty22, ty26, ty27, ty28, ty29, ty30, ty41, ty53, ty56, Nat.reduceEqDiff, if_false, reduceIte, Option.getD_some, Option.getD_none, dstAt, dstOk, Nat.reduceLT, decide_true, if_true]
  have fin : ∀ (HF : Heap) (tm : Ab.T) (x : In), tm 2 = .ptr H.length 0 0 → blkAt HF H.length = some ⟨64, .wr, [x.enc]⟩ → CurTo H HF c n → Q .ret tm HF := by
    intro HF tm x t2 hb hto
    refine hQ _ _ _ (by simp) ?_
    have hres : resT env.τ tm HF (Tryz.f92.results.toList) = some [W.agg x.enc] := by simp [Tryz.f92, t2, hb]
    rw [hres, optK_some]
    exact ⟨⟨x, rfl⟩, hto.leave hc _⟩
  have hcX := hc.app [some ⟨64, .wr, [[.i .i64 0, .i .i64 0, .i .i64 0, .i .i64 0, .i .i64 0, .i .i64 0, .i .i64 0, .b false]]⟩]
  have bzX : blkAt (H ++ [some ⟨64, .wr, [[.i .i64 0, .i .i64 0, .i .i64 0, .i .i64 0, .i .i64 0, .i .i64 0, .i .i64 0, .b false]]⟩]) H.length = some ⟨64, .wr, [[.i .i64 0, .i .i64 0, .i .i64 0, .i .i64 0, .i .i64 0, .i .i64 0, .i .i64 0, .b false]]⟩ := by simp
  have hlX : (H ++ [some ⟨64, .wr, [[.i .i64 0, .i .i64 0, .i .i64 0, .i .i64 0, .i .i64 0, .i .i64 0, .i .i64 0, .b false]]⟩] : Heap).length = H.length + 1 := by simp
  simp
  refine stpL_runs (l8DrawIn hcX) ?_
  rintro _ H1 ⟨⟨x, rfl⟩, hto1⟩
  have bz1 := hto1.1.blk bzX (by simp; omega)
  have dz1 := blkAt_len bz1
  have hcc1 := hto1.base
  have hl1 := hto1.len
  rw [hlX] at hl1
  simp [In.enc]
  have hcM := hto1.2.app [some ⟨64, .wr, [[.i .i64 x.kind, .i .i64 x.port, .i .i64 x.vec.root, .i .i64 x.vec.cost, .i .i64 x.vec.bridge, .i .i64 x.vec.port, .i .i64 x.hops, .b x.up]]⟩]
  refine stpL_runs (l1Below hcM 12) ?_
  rintro _ H2 ⟨⟨k, rfl, -⟩, hto2⟩
  have b3 : blkAt H2 H1.length = some ⟨64, .wr, [[.i .i64 x.kind, .i .i64 x.port, .i .i64 x.vec.root, .i .i64 x.vec.cost, .i .i64 x.vec.bridge, .i .i64 x.vec.port, .i .i64 x.hops, .b x.up]]⟩ := hto2.1.blk (by simp) (by simp; omega)
  have bz2 := hto2.1.blk (blkAt_app bz1 _) (by simp; omega)
  have d3 := blkAt_len b3
  have dz2 := blkAt_len bz2
  have hcc2 := hcc1.next hto2.base
  have hne3 : ∀ (Y : Heap) (y : Option Blk), blkAt (List.set Y H1.length y) H.length = blkAt Y H.length := fun Y y => blkAt_set_ne (by omega)
  have hne4 : ∀ (Y : Heap) (y : Blk), H1.length < Y.length → blkAt (List.set Y H1.length (some y)) H1.length = some y := fun Y y h => blkAt_set h
  by_cases c0 : k = 0
  · simp [c0]
    refine stpL_runs (l1Below hto2.2 6) ?_
    rintro _ H3 ⟨⟨y, rfl, -⟩, hto3⟩
    have b33 := hto3.1.blk b3 (by simp; omega)
    have bz3 := hto3.1.blk bz2 (by simp; omega)
    have d33 := blkAt_len b33
    have dz3 := blkAt_len bz3
    have hcc3 := hcc2.next hto3
    simp [b33, d33, bz3, dz3, hne3, hne4, Vec.enc]
    refine fin _ _ ⟨IntKind.i64.wrap (y - 1), x.port, x.vec, x.hops, x.up⟩ ?_ (blkAt_set (Nat.lt_of_lt_of_eq dz3 (List.length_set).symm)) ((hcc3.set (by omega) (by omega) _).set (by omega) (by omega) _)
    simp
  by_cases c1 : k = 1
  · simp [c1]
    have hcL := hto2.2.app [some ⟨3, .wr, [encI (-1), encI 3, encI 4]⟩]
    simp only [encI] at hcL
    refine stpL_runs (l1PickInt (xs := [(-1), 3, 4]) hcL (Sl.of (by simp [encI])) (by simp) (by simp)) ?_
    rintro _ H3 ⟨⟨y, rfl, -⟩, hto3⟩
    have hto3 := hto3.base
    have b33 := hto3.1.blk b3 (by simp; omega)
    have bz3 := hto3.1.blk bz2 (by simp; omega)
    have d33 := blkAt_len b33
    have dz3 := blkAt_len bz3
    have hcc3 := hcc2.next hto3
    simp [b33, d33, bz3, dz3, hne3, hne4, Vec.enc]
    refine fin _ _ ⟨x.kind, y, x.vec, x.hops, x.up⟩ ?_ (blkAt_set (Nat.lt_of_lt_of_eq dz3 (List.length_set).symm)) ((hcc3.set (by omega) (by omega) _).set (by omega) (by omega) _)
    simp
  by_cases c2 : k = 2
  · simp [c2]
    refine stpL_runs (l6Draw hto2.2) ?_
    rintro _ H3 ⟨⟨y, rfl⟩, hto3⟩
    have b33 := hto3.1.blk b3 (by simp; omega)
    have bz3 := hto3.1.blk bz2 (by simp; omega)
    have d33 := blkAt_len b33
    have dz3 := blkAt_len bz3
    have hcc3 := hcc2.next hto3
    simp [b33, d33, bz3, dz3, hne3, hne4, Vec.enc]
    refine fin _ _ ⟨x.kind, x.port, y, x.hops, x.up⟩ ?_ (blkAt_set (Nat.lt_of_lt_of_eq dz3 (List.length_set).symm)) ((hcc3.set (by omega) (by omega) _).set (by omega) (by omega) _)
    simp
  by_cases c3 : k = 3
  · simp [c3]
    have hcL := hto2.2.app [some ⟨3, .wr, [encI (-1), encI 8, encI 9]⟩]
    simp only [encI] at hcL
    refine stpL_runs (l1PickInt (xs := [(-1), 8, 9]) hcL (Sl.of (by simp [encI])) (by simp) (by simp)) ?_
    rintro _ H3 ⟨⟨y, rfl, -⟩, hto3⟩
    have hto3 := hto3.base
    have b33 := hto3.1.blk b3 (by simp; omega)
    have bz3 := hto3.1.blk bz2 (by simp; omega)
    have d33 := blkAt_len b33
    have dz3 := blkAt_len bz3
    have hcc3 := hcc2.next hto3
    simp [b33, d33, bz3, dz3, hne3, hne4, Vec.enc]
    refine fin _ _ ⟨x.kind, x.port, x.vec, y, x.up⟩ ?_ (blkAt_set (Nat.lt_of_lt_of_eq dz3 (List.length_set).symm)) ((hcc3.set (by omega) (by omega) _).set (by omega) (by omega) _)
    simp
  simp [c0, c1, c2, c3, b3, d3, bz2, dz2]
  refine fin _ _ ⟨_, _, ⟨_, _, _, _⟩, _, _⟩ ?_ (blkAt_set dz2) (hcc2.set (by omega) (by omega) _)
  simp

theorem l1New {H : Heap} {a : Option (Nat × Nat)} {bs : List Int} (hs : Sl H 5 a (bs.map encU)) (hn : bs.length ≤ 1048576) : Runs env 47 [.w (.lf (.sl a bs.length))] H fun v H' => ∃ c, v = .ptr c 0 0 ∧ Cur H' c bs.length ∧ H.length ≤ c ∧ Keep [] H H' := by
  have hw : IntKind.i64.wrap (27397 + (bs.length : Int)) = 27397 + (bs.length : Int) := wrap64 (by omega) (by omega)
  refine Runs.walk ok47 Tryz.func47 rfl (by simp [Tryz.f47]) fun Q hQ => ?_
  simp only [Tryz.f47, strip, stripL, stripI, stripG, chkT, tagsB, tagsL, tagD, addT, tagA, lookN, tagOp, elmT, ty22, ty26, ty27, ty28, ty29, ty30, ty41, ty53, ty56, Nat.reduceEqDiff, if_false, reduceIte, Option.getD_some, Option.getD_none, dstAt, dstOk, Nat.reduceLT, decide_true, if_true]
  have fin : ∀ (tm : Ab.T) (h : Int), tm 2 = .ptr H.length 0 0 → Q .ret tm (H ++ [some ⟨113, .wr, [[.sl a bs.length, .i .i64 0, .i .i64 h]]⟩]) := by
    intro tm h t2
    refine hQ _ _ _ (by simp) ?_
    simp [Tryz.f47, t2, leave, refFree]
    refine ⟨⟨a, 0, h, bs, by simp, by omega, by omega, rfl, hn, fun id r he hb => ?_, hs.app _⟩, Keep.app _ _ _⟩
    subst he
    exact hs.len (by simpa using hb)
  simp [builtinV, pureB, lenV, hw]
  refine wpS_loop (fun j tm H' => ∃ (i : Nat) (h : Int), i + j = bs.length ∧ tm 0 = .w (.lf (.sl a bs.length)) ∧ tm 3 = .int h ∧ tm 4 = .int i ∧ H' = H) bs.length (by rw [env_K]; omega) ⟨0, 27397 + bs.length, by simp, by simp, by simp, by simp, rfl⟩ ?_
  rintro j tm H1 hj ⟨i, h, hij, t0, t3, t4, rfl⟩ Q2 hn2 he2 hr2
  simp [t0, t3, t4, builtinV, pureB, lenV]
  have out : ∀ tm : Ab.T, tm 0 = .w (.lf (.sl a bs.length)) → tm 3 = .int h → Q2 (.exit 0) tm H1 := by
    intro tm s0 s3
    refine he2 _ _ _ ?_
    simp [s0, s3]
    refine fin _ h ?_
    simp
  by_cases hc1 : (i : Int) < bs.length
  · have hk : i < bs.length := by omega
    by_cases hc2 : (i : Int) < 4000
    · obtain ⟨id3, r3, bl3, rfl, hb3, hbe3, hrow3⟩ := hs i _ (by rw [List.getElem?_map, List.getElem?_eq_getElem hk]; rfl)
      have hid3 := blkAt_len hb3
      have hw2 : IntKind.i64.wrap ((i : Int) + 1) = (i : Int) + 1 := wrap64 (by omega) (by omega)
      have hc2' : i < 4000 := by omega
      simp [hc1, hk, hc2, hc2', t0, t3, t4, hb3, hid3, hbe3, hrow3, indexAddrV, elemIs, encU, binV, binInt, cmpI, arI, IntKind.bits, convV, hw2]
      refine hn2 (j - 1) _ _ (by omega) ⟨i + 1, _, by omega, by simp [t0], by simp; rfl, by simp, rfl⟩
    · have hc2' : ¬ i < 4000 := by omega
      simp [hc1, hk, hc2, hc2', t0, t3, t4]
      exact out _ (by simp [t0]) (by simp [t3])
  · have hk : ¬ i < bs.length := by omega
    simp [hc1, hk, t0, t3, t4]
    exact out _ (by simp [t0]) (by simp [t3])

def BrSt (H H' : Heap) (c n K m : Nat) : Prop := ∃ (l : List Lf) (b : Bridge) (fp : List Nat), blkAt H' K = some ⟨43, .wr, [l]⟩ ∧ IsBridge H' l b fp ∧ (∀ k ∈ fp, H.length + 1 ≤ k ∧ k ≠ K) ∧ b.ports.length = m ∧ CurTo H H' c n ∧ blkAt H' H.length = some ⟨43, .wr, [[.i .i64 0, .sl none 0]]⟩
theorem BrSt.next {H H1 H2 : Heap} {c n K m : Nat} (h : BrSt H H1 c n K m) (h2 : CurTo H1 H2 c n) (hc : c < H.length) (hK : H.length < K) : BrSt H H2 c n K m := by
  obtain ⟨l, b, fp, h3, h4, h5, h6, h7, h8⟩ := h
  exact ⟨l, b, fp, h2.1.blk h3 (by simp; omega), h4.keep h2.1 (fun k hk hk2 => by have := h5 k hk; simp at hk2; omega), h5, h6, h7.next h2, h2.1.blk h8 (by simp; omega)⟩
theorem l8DrawRight {H : Heap} {c n : Nat} (hc : Cur H c n) : Runs env 67 [.ptr c 0 0] H fun v H' => (∃ (l : List Lf) (b : Bridge) (fp : List Nat), v = .agg l ∧ IsBridge H' l b fp ∧ 1 ≤ b.ports.length ∧ b.ports.length ≤ 4 ∧ ∀ i ∈ fp, H.length ≤ i) ∧ CurTo H H' c n := by
  have hcl := hc.lt
  refine Runs.walk ok67 Tryz.func67 rfl (by simp [Tryz.f67]) fun Q hQ => ?_
  simp only [Tryz.f67, strip, stripL, stripI, stripG, chkT, tagsB, tagsL, tagD, addT, tagA, lookN, tagOp, elmT, ty22, ty26, ty27, ty28, ty29, ty30, ty41, ty53, ty56, Nat.reduceEqDiff, if_false, reduceIte, Option.getD_some, Option.getD_none, dstAt, dstOk, Nat.reduceLT, decide_true, if_true]
  have hcX := hc.app [some ⟨43, .wr, [[.i .i64 0, .sl none 0]]⟩]
  have bzX : blkAt (H ++ [some ⟨43, .wr, [[.i .i64 0, .sl none 0]]⟩]) H.length = some ⟨43, .wr, [[.i .i64 0, .sl none 0]]⟩ := by simp
  have hlX : (H ++ [some ⟨43, .wr, [[.i .i64 0, .sl none 0]]⟩] : Heap).length = H.length + 1 := by simp
  simp
  refine stpL_runs (l1Below hcX 6) ?_
  rintro _ H1 ⟨⟨x, rfl, hx0, hx1, -⟩, hto1⟩
  simp
  refine stpL_runs (l1Below hto1.2 4) ?_
  rintro _ H2 ⟨⟨y, rfl, hy0, hy1, -⟩, hto2⟩
  have hto := hto1.next hto2
  have bz2 := hto.1.blk bzX (by simp; omega)
  have hl2 := hto.len
  rw [hlX] at hl2
  have hcc2 := hto.base
  have w1 : IntKind.i64.wrap (1 + x) = 1 + x := wrap64 (by omega) (by omega)
  have w2 : IntKind.i64.wrap (1 + y) = 1 + y := wrap64 (by omega) (by omega)
  simp [w1, w2]
  refine stpL_runs (specBridgeNew _ _ _) ?_
  rintro _ _ ⟨l, fp, rfl, ob, ⟨⟨G3, rfl⟩, hfp⟩⟩
  have hbn := bridgeNew_yes (show (bridgeNew (1 + x) (1 + y)).2 = true by unfold bridgeNew; rw [if_pos (by simp; omega)])
  have hL := ob.len
  have hT : l.take l.length = l := List.take_length
  rw [hL] at hT
  have hltb := ob.lt
  obtain ⟨m, hm⟩ : ∃ m : Nat, m = (1 + y).toNat := ⟨_, rfl⟩
  have hm4 : 1 ≤ m ∧ m ≤ 4 := by omega
  simp [hL, hT]
  obtain ⟨K, hK⟩ : ∃ K, K = H2.length + G3.length := ⟨_, rfl⟩
  have hKl : H.length < K := by omega
  have st0 : BrSt H (H2 ++ (G3 ++ [some ⟨43, .wr, [l]⟩])) c n K m := by
    have ob' := ob.app [some ⟨43, .wr, [l]⟩]
    rw [List.append_assoc] at ob'
    refine ⟨l, _, fp, by rw [hK]; simp, ob', fun k hk => ?_, by rw [hbn.2.2]; simp [hm], hcc2.app _, blkAt_app bz2 _⟩
    have a1 := hfp k hk
    have a2 := hltb k hk
    simp only [List.length_append] at a2
    omega
  rw [← hK]
  obtain ⟨H3, hH3⟩ : ∃ H3 : Heap, H3 = H2 ++ (G3 ++ [some ⟨43, .wr, [l]⟩]) := ⟨_, rfl⟩
  rw [← hH3] at st0 ⊢
  clear hH3 hK ob hfp hltb hL hT
  have ret : ∀ (HF : Heap) (tm : Ab.T), tm 2 = .ptr H.length 0 0 → (∃ (l : List Lf) (b : Bridge) (fp : List Nat), blkAt HF H.length = some ⟨43, .wr, [l]⟩ ∧ IsBridge HF l b fp ∧ (∀ k ∈ fp, H.length ≤ k) ∧ b.ports.length = m ∧ CurTo H HF c n) → Q .ret tm HF := by
    rintro HF tm t2 ⟨l, b, fp, h1, h2, h3, h4, h5⟩
    have hL := h2.len
    have hT : l.take l.length = l := List.take_length
    rw [hL] at hT
    refine hQ _ _ _ (by simp) ?_
    have hres : resT env.τ tm HF (Tryz.f67.results.toList) = some [W.agg l] := by simp [Tryz.f67, t2, h1, hL, hT]
    rw [hres, optK_some]
    refine ⟨?_, h5.leave hc _⟩
    rcases leave_opt H HF [W.agg l] with e | ⟨e, hr⟩ <;> rw [e]
    · exact ⟨l, b, fp, rfl, h2, by omega, by omega, h3⟩
    · exact ⟨l, b, [], rfl, h2.free (by simpa using hr) H, by omega, by omega, by simp⟩
  -- a reaction
  have act : ∀ (HA : Heap) (l : List Lf) (b : Bridge) (fp : List Nat) (x : In), blkAt HA K = some ⟨43, .wr, [l]⟩ → IsBridge HA l b fp → (∀ k ∈ fp, H.length + 1 ≤ k ∧ k ≠ K) → b.ports.length = m → CurTo H HA c n → blkAt HA H.length = some ⟨43, .wr, [[.i .i64 0, .sl none 0]]⟩ → l.length = 2 →
      Runs env 59 [.agg l, .agg x.enc] HA fun v H' => ∃ l' q G, v = .tup [.agg l', .lf q] ∧ l'.length = 2 ∧ l'.take 2 = l' ∧ H' = HA ++ G ∧ BrSt H (H'.set K (some ⟨43, .wr, [l']⟩)) c n K m := by
    intro HA l b fp x h1 h2 h3 h4 h5 h6 h7
    refine (specReact h2.rd (by unfold Bridge.sz; omega) x).mono ?_
    rintro _ _ ⟨l', f1, q, f2, rfl, o1, o2, ⟨⟨G, rfl⟩, hf⟩, hd⟩
    have hl' := o1.len
    refine ⟨l', q, G, rfl, hl', by rw [← hl']; exact List.take_length, rfl, l', _, f1, blkAt_set (by have := blkAt_len h1; simp; omega), o1.keep (Keep.set _ _) (fun k hk hk2 => ?_), fun k hk => ?_, by rw [reactB_len]; exact h4, (h5.app G).set (by omega) (by omega) _, by rw [blkAt_set_ne (by omega)]; exact blkAt_app h6 G⟩
    · have := hf k (by simp [hk]); have := blkAt_len h1; simp at hk2; omega
    · have := hf k (by simp [hk]); have := blkAt_len h1; have := h5.len; omega
  refine wpS_loop (fun j tm H' => ∃ i : Nat, i + j = m ∧ tm 0 = .ptr c 0 0 ∧ tm 2 = .ptr H.length 0 0 ∧ tm 3 = .ptr K 0 0 ∧ tm 5 = .int i ∧ BrSt H H' c n K m) m (by rw [env_K]; omega) ⟨0, by simp, by simp, by simp, by simp, by simp, st0⟩ ?_
  rintro j tm H4 hj ⟨i, hij, t0, t2, t3, t5, st⟩ Q2 hn2 he2 hr2
  obtain ⟨l4, b4, fp4, k4, o4, hf4, hm4', hto4, bz4⟩ := st
  have d4 := blkAt_len k4
  have hL4 := o4.len
  have hT4 : l4.take l4.length = l4 := List.take_length
  rw [hL4] at hT4
  have hD4 : l4.drop 2 = [] := by rw [← hL4]; exact List.drop_length
  have hq : ∃ a4, l4 = [.i .i64 b4.id, .sl a4 m] := by
    obtain ⟨a4, rfl, -⟩ := o4
    exact ⟨a4, by simp [Bridge.enc, hm4']⟩
  obtain ⟨a4, hq4⟩ := hq
  have hd1 : List.take 1 l4.tail = [.sl a4 m] := by rw [hq4]; rfl
  simp [t0, t2, t3, t5, k4, d4, hL4, hd1, builtinV, pureB, lenV]
  have hw : IntKind.i64.wrap ((i : Int) + 1) = (i : Int) + 1 := wrap64 (by omega) (by omega)
  refine selS_intro (fun hc1 => ?_) (fun hc1 => ?_)
  · simp at hc1
    simp [t0]
    refine stpL_runs (l1Once hto4.2 4) ?_
    rintro _ H5 ⟨⟨b, rfl⟩, hto5⟩
    have st5 : BrSt H H5 c n K m := BrSt.next ⟨l4, b4, fp4, k4, o4, hf4, hm4', hto4, bz4⟩ hto5 hcl hKl
    cases b
    rotate_left
    · simp [t0, t2, t3, t5, hw]
      exact hn2 (j - 1) _ _ (by omega) ⟨i + 1, by omega, by simp [t0], by simp [t2], by simp [t3], by simp, st5⟩
    obtain ⟨l5, b5, fp5, k5, o5, hf5, hm5, hto5', bz5⟩ := st5
    have d5 := blkAt_len k5
    have hL5 := o5.len
    have hT5 : l5.take l5.length = l5 := List.take_length
    rw [hL5] at hT5
    have hD5 : l5.drop 2 = [] := by rw [← hL5]; exact List.drop_length
    have ha := act H5 l5 b5 fp5 ⟨3, i, ⟨0, 0, 0, 0⟩, 0, true⟩ k5 o5 hf5 hm5 hto5' bz5 hL5
    simp only [In.enc] at ha
    simp [t0, t2, t3, t5, k5, d5, hL5, hT5]
    refine stpL_runs ha ?_
    rintro _ _ ⟨l6, q6, G6, rfl, hL6, hT6, rfl, st6⟩
    have k6 := blkAt_app k5 G6
    have d6 : K < H5.length + G6.length := by omega
    simp [t3, k6, d6, hL5, hD5, hL6, hT6, t5, hw]
    exact hn2 (j - 1) _ _ (by omega) ⟨i + 1, by omega, by simp [t0], by simp [t2], by simp [t3], by simp, st6⟩
  · simp at hc1
    simp
    refine he2 _ _ _ ?_
    have stA : BrSt H H4 c n K m := ⟨l4, b4, fp4, k4, o4, hf4, hm4', hto4, bz4⟩
    simp [t0, t2, t3]
    refine wpS_loop (fun j tm H' => ∃ i : Nat, i + j = 9 ∧ tm 0 = .ptr c 0 0 ∧ tm 2 = .ptr H.length 0 0 ∧ tm 3 = .ptr K 0 0 ∧ tm 6 = .int i ∧ BrSt H H' c n K m) 9 (by rw [env_K]; omega) ⟨0, by simp, by simp [t0], by simp [t2], by simp [t3], by simp, stA⟩ ?_
    clear hn2 he2 hr2
    rintro j tm H4 hj ⟨i, hij, t0, t2, t3, t6, st⟩ Q2 hn2 he2 hr2
    simp [t0, t6]
    refine stpL_runs (l1Below (by obtain ⟨_, _, _, _, _, _, _, hh, _⟩ := st; exact hh.2) 10) ?_
    rintro _ H5 ⟨⟨w, rfl, hw0, hw1, -⟩, hto5⟩
    have hw9 := hw1 (by omega)
    have st5 := st.next hto5 hcl hKl
    obtain ⟨l5, b5, fp5, k5, o5, hf5, hm5, hto5', bz5⟩ := st5
    have d5 := blkAt_len k5
    have hL5 := o5.len
    have hT5 : l5.take l5.length = l5 := List.take_length
    rw [hL5] at hT5
    simp [t0, t6]
    refine selS_intro (fun hc2 => ?_) (fun hc2 => ?_)
    · simp at hc2
      have hwi : IntKind.i64.wrap ((i : Int) + 1) = (i : Int) + 1 := wrap64 (by omega) (by omega)
      simp [t0, t3, k5, d5, hL5, hT5]
      refine stpL_cur (l8DrawIn hto5'.2) hto5'.2 (fun v H' h => h.2) ?_
      rintro _ H6 ⟨⟨x6, rfl⟩, hto6⟩
      have st6 : BrSt H H6 c n K m := BrSt.next ⟨l5, b5, fp5, k5, o5, hf5, hm5, hto5', bz5⟩ hto6 hcl hKl
      have k6 := hto6.1.blk k5 (by simp; omega)
      have o6 := o5.keep hto6.1 (fun k hk hk2 => by have := hf5 k hk; simp at hk2; omega)
      have bz6 := hto6.1.blk bz5 (by simp; omega)
      have d6 := blkAt_len k6
      have hD5 : l5.drop 2 = [] := by rw [← hL5]; exact List.drop_length
      simp
      refine stpL_runs_f (act H6 l5 b5 fp5 x6 k6 o6 hf5 hm5 (hto5'.next hto6) bz6 hL5) (by rintro _ _ ⟨_, _, G, _, _, _, rfl, _⟩; exact ⟨G, rfl⟩) ?_
      rintro _ _ ⟨l7, q7, G7, rfl, hL7, hT7, rfl, st7⟩
      have k7 := blkAt_app k6 G7
      have d7 : K < H6.length + G7.length := by omega
      simp [t3, k7, d7, hL5, hD5, hL7, hT7, t6, hwi]
      exact hn2 (j - 1) _ _ (by omega) ⟨i + 1, by omega, by simp [t0], by simp [t2], by simp [t3], by simp, st7⟩
    · simp at hc2
      simp
      refine he2 _ _ _ ?_
      have dz5 := blkAt_len bz5
      simp [t2, t3, k5, d5, hL5, hT5, bz5, dz5]
      refine ret _ _ (by simp [t2]) ⟨l5, b5, fp5, blkAt_set dz5, o5.keep (Keep.set _ _) (fun k hk hk2 => by have := hf5 k hk; simp at hk2; omega), fun k hk => by have := hf5 k hk; omega, hm5, hto5'.set (by omega) (by omega) _⟩

theorem l15DrawDeed {H : Heap} {c n : Nat} (hc : Cur H c n) {l : List Lf} {x : Box} (h : RdBox H l x) (hn : x.net.length ≤ 1048576) : Runs env 86 [.ptr c 0 0, .agg l] H fun v H' => (∃ d : Deed, v = .agg d.enc ∧ 1 ≤ d.kind ∧ d.kind ≤ 12) ∧ CurTo H H' c n := by
  have hcl := hc.lt
  obtain ⟨q0, q1, q2, q3, q4, rfl, -, ⟨a1, rfl, -⟩, -⟩ := h
  refine Runs.walk ok86 Tryz.func86 rfl (by simp [Tryz.f86]) fun Q hQ => ?_
  simp only [Tryz.f86, strip, stripL, stripI, stripG, chkT, tagsB, tagsL, tagD, addT, tagA, lookN, tagOp, elmT, ty22, ty26, ty27, ty28, ty29, ty30, ty41, ty53, ty56, Nat.reduceEqDiff, if_false, reduceIte, Option.getD_some, Option.getD_none, dstAt, dstOk, Nat.reduceLT, decide_true, if_true]
  obtain ⟨X, hX⟩ : ∃ X : Heap, X = H ++ [some ⟨32, .wr, [[.i .i64 x.id, .i .i64 x.ports, .i .i64 x.reg.epoch, .i .i64 x.reg.owner, .i .i64 x.reg.pair, q0, .sl a1 x.net.length, q2, q3, q4]]⟩, some ⟨66, .wr, [[.i .i64 0, .i .i64 0, .i .i64 0, .i .i64 0, .i .i64 0, .i .i64 0, .i .i64 0, .i .i64 0, .i .i64 0, .b false]]⟩] := ⟨_, rfl⟩
  have b0X : blkAt X H.length = some ⟨32, .wr, [[.i .i64 x.id, .i .i64 x.ports, .i .i64 x.reg.epoch, .i .i64 x.reg.owner, .i .i64 x.reg.pair, q0, .sl a1 x.net.length, q2, q3, q4]]⟩ := by rw [hX]; simp
  have bzX : blkAt X (H.length + 1) = some ⟨66, .wr, [[.i .i64 0, .i .i64 0, .i .i64 0, .i .i64 0, .i .i64 0, .i .i64 0, .i .i64 0, .i .i64 0, .i .i64 0, .b false]]⟩ := by rw [hX]; simp
  have hcX : CurTo H X c n := by rw [hX]; exact (CurTo.refl hc).app _
  simp [Box.enc]
  rw [← hX]
  have hlX : X.length = H.length + 2 := by rw [hX]; simp
  clear hX
  have fin : ∀ (HF : Heap) (tm : Ab.T) (d : Deed) (L : List Lf), L = d.enc → tm 4 = .ptr (H.length + 1) 0 0 → H.length + 1 < HF.length → CurTo H HF c n → 1 ≤ d.kind → d.kind ≤ 12 → Q .ret tm (HF.set (H.length + 1) (some ⟨66, .wr, [L]⟩)) := by
    intro HF tm d L hL t4 hlt hto h1 h2
    subst hL
    refine hQ _ _ _ (by simp) ?_
    have hb : blkAt (HF.set (H.length + 1) (some ⟨66, .wr, [d.enc]⟩)) (H.length + 1) = some ⟨66, .wr, [d.enc]⟩ := blkAt_set hlt
    have hres : resT env.τ tm (HF.set (H.length + 1) (some ⟨66, .wr, [d.enc]⟩)) (Tryz.f86.results.toList) = some [W.agg d.enc] := by simp [Tryz.f86, t4, hb]
    rw [hres, optK_some]
    exact ⟨⟨d, rfl, h1, h2⟩, (hto.set (by omega) (by omega) _).leave hc _⟩
  refine stpL_runs (l1Below hcX.2 2) ?_
  rintro _ H1 ⟨⟨w, rfl, -⟩, hto1⟩
  simp
  refine stpL_runs (l1Below hto1.2 18) ?_
  rintro _ H2 ⟨⟨k, rfl, -⟩, hto2⟩
  have hto := hto1.next hto2
  have b0 := hto.1.blk b0X (by simp; omega)
  have bz := hto.1.blk bzX (by simp; omega)
  have d0 := blkAt_len b0
  have dz := blkAt_len bz
  have hcc := hcX.next hto
  have hne : ∀ (Y : Heap) (y : Option Blk) (i : Nat), H.length + 1 < i → blkAt (List.set Y i y) (H.length + 1) = blkAt Y (H.length + 1) := fun Y y i h => blkAt_set_ne (by omega)
  have shut : ∀ (tm : Ab.T) (kd a : Int), 1 ≤ kd → kd ≤ 12 → tm 4 = .ptr (H.length + 1) 0 0 → Q .ret tm (H2.set (H.length + 1) (some ⟨66, .wr, [[.i .i64 kd, .i .i64 a, .i .i64 0, .i .i64 0, .i .i64 0, .i .i64 0, .i .i64 0, .i .i64 0, .i .i64 0, .b false]]⟩)) := fun tm kd a h1 h2 t4 => fin _ tm ⟨kd, a, ⟨0, 0, ⟨0, 0, 0, 0⟩, 0, false⟩⟩ _ rfl t4 dz hcc h1 h2
  by_cases c012 : k = 0 ∨ k = 1 ∨ k = 2
  · rcases c012 with rfl | rfl | rfl
    all_goals
      simp
      refine stpL_runs (l8DrawIn hto2.2) ?_
      rintro _ H3 ⟨⟨y, rfl⟩, hto3⟩
      have b03 := hto3.1.blk b0 (by simp; omega)
      have bz3 := hto3.1.blk bz (by simp; omega)
      have d03 := blkAt_len b03
      have dz3 := blkAt_len bz3
      have hcc3 := hcc.next hto3
      have hl3 := hcc3.len
      have hl23 := hto3.len
      have hl12 := hto.len
      simp [In.enc]
      by_cases ck : y.kind = 2
      · have bz3A := fun G => blkAt_app bz3 G
        have g9 : H.length + 1 < H3.length + 1 := by omega
        simp [ck, bz3A, g9, -set_lt]
        refine fin _ _ ⟨1, 0, ⟨2, y.port, y.vec, y.hops, y.up⟩⟩ _ rfl ?_ (by simp; omega) (hcc3.app _) (by simp) (by simp)
        simp
      · have b03A := fun G => blkAt_app b03 G
        simp [ck, b03A, show H.length < H3.length + 1 by omega, l1Max]
        have hcM := (hto3.app [some ⟨64, .wr, [[.i .i64 y.kind, .i .i64 y.port, .i .i64 y.vec.root, .i .i64 y.vec.cost, .i .i64 y.vec.bridge, .i .i64 y.vec.port, .i .i64 y.hops, .b y.up]]⟩])
        refine stpL_runs (l1Below hcM.2 (max x.ports 1)) ?_
        rintro _ H4 ⟨⟨z, rfl, -⟩, hto4⟩
        have b7 : blkAt H4 H3.length = some ⟨64, .wr, [[.i .i64 y.kind, .i .i64 y.port, .i .i64 y.vec.root, .i .i64 y.vec.cost, .i .i64 y.vec.bridge, .i .i64 y.vec.port, .i .i64 y.hops, .b y.up]]⟩ := hto4.1.blk (by simp) (by simp; omega)
        have bz4 := hto4.1.blk (blkAt_app bz3 _) (by simp; omega)
        have d7 := blkAt_len b7
        have dz4 := blkAt_len bz4
        have hset7 : ∀ y : Blk, blkAt (List.set H4 H3.length (some y)) H3.length = some y := fun y => blkAt_set d7
        have hne7 : ∀ y : Option Blk, blkAt (List.set H4 H3.length y) (H.length + 1) = blkAt H4 (H.length + 1) := fun y => blkAt_set_ne (by omega)
        simp [b7, d7, hset7, hne7, bz4, dz4]
        refine fin _ _ ⟨1, 0, ⟨y.kind, z, y.vec, y.hops, y.up⟩⟩ _ rfl ?_ (by simpa using dz4) (((hcc3.app _).next hto4).set (by omega) (by omega) _) (by simp) (by simp)
        simp
  have n0 : ¬ k = 0 := fun h => c012 (.inl h)
  have n1 : ¬ k = 1 := fun h => c012 (.inr (.inl h))
  have n2 : ¬ k = 2 := fun h => c012 (.inr (.inr h))
  by_cases c345 : k = 3 ∨ k = 4 ∨ k = 5
  · rcases c345 with rfl | rfl | rfl
    all_goals
      simp [bz, dz]
      refine shut _ 2 _ (by omega) (by omega) ?_
      simp
  have n3 : ¬ k = 3 := fun h => c345 (.inl h)
  have n4 : ¬ k = 4 := fun h => c345 (.inr (.inl h))
  have n5 : ¬ k = 5 := fun h => c345 (.inr (.inr h))
  by_cases c6789 : k = 6 ∨ k = 7 ∨ k = 8 ∨ k = 9
  · rcases c6789 with rfl | rfl | rfl | rfl
    all_goals
      simp [b0, d0, builtinV, pureB, lenV, l1Max]
      refine stpL_runs (l1Below hto2.2 (max (x.net.length : Int) 1)) ?_
      rintro _ H3 ⟨⟨z, rfl, -⟩, hto3⟩
      have bz3 := hto3.1.blk bz (by simp; omega)
      have dz3 := blkAt_len bz3
      simp [bz3, dz3]
      refine fin _ _ ⟨3, z, ⟨0, 0, ⟨0, 0, 0, 0⟩, 0, false⟩⟩ _ rfl ?_ dz3 (hcc.next hto3) (by simp) (by simp)
      simp
  have n6 : ¬ k = 6 := fun h => c6789 (.inl h)
  have n7 : ¬ k = 7 := fun h => c6789 (.inr (.inl h))
  have n8 : ¬ k = 8 := fun h => c6789 (.inr (.inr (.inl h)))
  have n9 : ¬ k = 9 := fun h => c6789 (.inr (.inr (.inr h)))
  by_cases c10 : k = 10 ∨ k = 11
  · rcases c10 with rfl | rfl
    all_goals
      simp [bz, dz]
      refine shut _ 6 0 (by omega) (by omega) ?_
      simp
  have n10 : ¬ k = 10 := fun h => c10 (.inl h)
  have n11 : ¬ k = 11 := fun h => c10 (.inr h)
  by_cases c12 : k = 12
  · subst c12
    simp [bz, dz]
    refine shut _ 10 _ (by omega) (by omega) ?_
    simp
  by_cases c13 : k = 13
  · subst c13
    simp
    have hcL := hto2.2.app [some ⟨3, .wr, [encI 4, encI 5, encI 11]⟩]
    simp only [encI] at hcL
    refine stpL_runs (l1PickInt (xs := [4, 5, 11]) hcL (Sl.of (by simp [encI])) (by simp) (by simp)) ?_
    rintro _ H3 ⟨⟨z, rfl, hz⟩, hto3⟩
    have hto3 := hto3.base
    have bz3 := hto3.1.blk bz (by simp; omega)
    have dz3 := blkAt_len bz3
    simp [bz3, dz3]
    refine fin _ _ ⟨z, _, ⟨0, 0, ⟨0, 0, 0, 0⟩, 0, false⟩⟩ _ rfl ?_ dz3 (hcc.next hto3) (by simp at hz; simp only; omega) (by simp at hz; simp only; omega)
    simp
  by_cases c14 : k = 14
  · subst c14
    simp [bz, dz]
    refine shut _ 7 _ (by omega) (by omega) ?_
    simp
  by_cases c15 : k = 15
  · subst c15
    simp [bz, dz]
    refine shut _ 8 _ (by omega) (by omega) ?_
    simp
  by_cases c16 : k = 16
  · subst c16
    simp [bz, dz]
    refine shut _ 9 _ (by omega) (by omega) ?_
    simp
  · simp [n0, n1, n2, n3, n4, n5, n6, n7, n8, n9, n10, n11, c12, c13, c14, c15, c16, bz, dz]
    refine shut _ 12 _ (by omega) (by omega) ?_
    simp

theorem l15DrawRun {H : Heap} {c n : Nat} (hc : Cur H c n) (most : Int) (hm0 : 0 ≤ most) (hm1 : most ≤ 1000) : Runs env 83 [.ptr c 0 0, .int most] H fun v H' => (∃ (l : List Lf) (x : Box) (fp : List Nat) (q : Lf) (ds : List Deed) (fd : List Nat) (l2 : List Lf) (y : Box) (fp2 : List Nat), v = .tup [.agg l, .lf q, .agg l2] ∧ IsBox H' l x fp ∧ IsDeedS H' q ds fd ∧ IsBox H' l2 y fp2 ∧ x.ok = true ∧ y.ok = true ∧ (boxNew x.id x.ports).2 = true ∧ ds.length ≤ most ∧ (∀ i ∈ fp, H.length ≤ i) ∧ (∀ i ∈ fd, H.length ≤ i) ∧ (∀ i ∈ fp2, H.length ≤ i) ∧ (∀ i ∈ fp2, i ∉ fd) ∧ ∀ i ∈ fp, i ∉ fd ∧ i ∉ fp2) ∧ CurTo H H' c n := by
  have hcl := hc.lt
  refine Runs.walk ok83 Tryz.func83 rfl (by simp [Tryz.f83]) fun Q hQ => ?_
  simp only [Tryz.f83, strip, stripL, stripI, stripG, chkT, tagsB, tagsL, tagD, addT, tagA, lookN, tagOp, elmT, ty22, ty26, ty27, ty28, ty29, ty30, ty41, ty53, ty56, Nat.reduceEqDiff, if_false, reduceIte, Option.getD_some, Option.getD_none, dstAt, dstOk, Nat.reduceLT, decide_true, if_true]
  obtain ⟨X, hX⟩ : ∃ X : Heap, X = H ++ [some ⟨32, .wr, [[.i .i64 0, .i .i64 0, .i .i64 0, .i .i64 0, .i .i64 0, .sl none 0, .sl none 0, .sl none 0, .sl none 0, .sl none 0]]⟩, some ⟨32, .wr, [[.i .i64 0, .i .i64 0, .i .i64 0, .i .i64 0, .i .i64 0, .sl none 0, .sl none 0, .sl none 0, .sl none 0, .sl none 0]]⟩] := ⟨_, rfl⟩
  have bzX : blkAt X H.length = some ⟨32, .wr, [[.i .i64 0, .i .i64 0, .i .i64 0, .i .i64 0, .i .i64 0, .sl none 0, .sl none 0, .sl none 0, .sl none 0, .sl none 0]]⟩ := by rw [hX]; simp
  have bwX : blkAt X (H.length + 1) = some ⟨32, .wr, [[.i .i64 0, .i .i64 0, .i .i64 0, .i .i64 0, .i .i64 0, .sl none 0, .sl none 0, .sl none 0, .sl none 0, .sl none 0]]⟩ := by rw [hX]; simp
  have hcX : CurTo H X c n := by rw [hX]; exact (CurTo.refl hc).app _
  simp
  rw [← hX]
  have hlX : X.length = H.length + 2 := by rw [hX]; simp
  clear hX
  refine stpL_runs (l1Below hcX.2 5) ?_
  rintro _ H1 ⟨⟨a, rfl, ha0, ha1, -⟩, hto1⟩
  simp
  refine stpL_runs (l1Below hto1.2 4) ?_
  rintro _ H2 ⟨⟨b, rfl, hb0, hb1, -⟩, hto2⟩
  have hto := hto1.next hto2
  have w1 : IntKind.i64.wrap (1 + a) = 1 + a := wrap64 (by omega) (by omega)
  have w2 : IntKind.i64.wrap (1 + b) = 1 + b := wrap64 (by omega) (by omega)
  simp [w1, w2]
  refine stpL_runs (specBoxNew_is (1 + a) (by unfold I64; omega) (1 + b) (by unfold I64; omega)) ?_
  rintro _ _ ⟨l1, f1, rfl, o1, ⟨⟨G3, rfl⟩, hf1⟩⟩
  have hbn : (bridgeNew (1 + a) (1 + b)).2 = true := by unfold bridgeNew; rw [if_pos (by simp; omega)]
  have hbx : boxNew (1 + a) (1 + b) = (⟨1 + a, 1 + b, ⟨1, 0, 0⟩, [newM0, newM1], [], List.replicate (1 + b).toNat false, [], []⟩, true) := by simp [boxNew, hbn]
  have hx0 := boxNew_ok hbn
  have hxid : (boxNew (boxNew (1 + a) (1 + b)).1.id (boxNew (1 + a) (1 + b)).1.ports).2 = true := by rw [hbx]; simp only; rw [hbx]
  rw [show (boxNew (1 + a) (1 + b)).1 = (⟨1 + a, 1 + b, ⟨1, 0, 0⟩, [newM0, newM1], [], List.replicate (1 + b).toNat false, [], []⟩ : Box) by rw [hbx]] at o1 hxid
  obtain ⟨x0, hx0d⟩ : ∃ x0 : Box, x0 = ⟨1 + a, 1 + b, ⟨1, 0, 0⟩, [newM0, newM1], [], List.replicate (1 + b).toNat false, [], []⟩ := ⟨_, rfl⟩
  rw [← hx0d] at o1 hx0 hxid
  have hs0 := (Box.smallOf hx0).1.sz
  have hL1 := o1.len
  have hT1 : l1.take l1.length = l1 := List.take_length
  rw [hL1] at hT1
  have hlt1 := o1.lt
  simp [hL1, hT1]
  have o1a := o1.app [some ⟨32, .wr, [l1]⟩]
  have hcp := specCopyBox o1a.rd (by omega)
  rw [List.append_assoc] at hcp o1a
  refine stpL_runs hcp ?_
  rintro _ _ ⟨l2, f2, rfl, o2, ⟨⟨G4, rfl⟩, hf2⟩⟩
  have hL2 := o2.len
  have hT2 : l2.take l2.length = l2 := List.take_length
  rw [hL2] at hT2
  have hlt2 := o2.lt
  simp [hL2, hT2]
  obtain ⟨K7, hK7⟩ : ∃ K, K = H2.length + G3.length := ⟨_, rfl⟩
  obtain ⟨K9, hK9⟩ : ∃ K, K = H2.length + (G3.length + (G4.length + 1)) := ⟨_, rfl⟩
  obtain ⟨KD, hKD⟩ : ∃ K, K = H2.length + (G3.length + (G4.length + 2)) := ⟨_, rfl⟩
  obtain ⟨Y, hY⟩ : ∃ Y : Heap, Y = H2 ++ (G3 ++ some ⟨32, .wr, [l1]⟩ :: (G4 ++ [some ⟨32, .wr, [l2]⟩, some ⟨66, .wr, []⟩])) := ⟨_, rfl⟩
  have h2l : H.length + 2 ≤ H2.length := by have := hto.len; omega
  have y7 : blkAt Y K7 = some ⟨32, .wr, [l1]⟩ := by rw [hY, hK7]; simp
  have y9 : blkAt Y K9 = some ⟨32, .wr, [l2]⟩ := by rw [hY, hK9]; simp
  have yD : blkAt Y KD = some ⟨66, .wr, []⟩ := by rw [hY, hKD]; simp
  have oy1 : IsBox Y l1 x0 f1 := by
    have := o1a.app (G4 ++ [some ⟨32, .wr, [l2]⟩, some ⟨66, .wr, []⟩])
    simp only [List.append_assoc, List.cons_append, List.nil_append] at this
    rw [hY]; exact this
  have oy2 : IsBox Y l2 x0 f2 := by
    have := o2.app [some ⟨32, .wr, [l2]⟩, some ⟨66, .wr, []⟩]
    simp only [List.append_assoc, List.cons_append, List.nil_append] at this
    rw [hY]; exact this
  have hcY : CurTo H Y c n := by rw [hY]; exact (hcX.next hto).app _
  have bz2 := hto.1.blk bzX (by simp; omega)
  have bw2 := hto.1.blk bwX (by simp; omega)
  have bzY := (show blkAt Y H.length = blkAt H2 H.length by rw [hY]; exact blkAt_lt (blkAt_len bz2) _).trans bz2
  have bwY := (show blkAt Y (H.length + 1) = blkAt H2 (H.length + 1) by rw [hY]; exact blkAt_lt (blkAt_len bw2) _).trans bw2
  have hf1Y : ∀ k ∈ f1, H.length + 2 ≤ k ∧ k ≠ K7 ∧ k ≠ K9 ∧ k < K7 := fun k hk => by have := hf1 k hk; have := hlt1 k hk; simp at this; omega
  have hf2Y : ∀ k ∈ f2, H.length + 2 ≤ k ∧ k ≠ K7 ∧ k ≠ K9 ∧ K7 < k ∧ k < K9 := fun k hk => by have h1 := hf2 k hk; have h2 := hlt2 k hk; simp at h1 h2; omega
  have oD : IsDeedS Y (.sl (some (KD, 0)) 0) [] [KD] := ⟨some (KD, 0), rfl, Own.of yD⟩
  rw [← hY, ← hK7, ← hK9, ← hKD]
  have hKs : H.length + 2 ≤ K7 ∧ K7 < K9 ∧ K9 < KD := by omega
  clear hY hK7 hK9 hKD o1 o1a o2 hf1 hf2 hlt1 hlt2 hcp
  have hwm : IntKind.i64.wrap (most + 1) = most + 1 := wrap64 (by omega) (by omega)
  simp [hwm]
  refine stpL_runs (l1Below hcY.2 (most + 1)) ?_
  rintro _ S ⟨⟨nn, rfl, hn0, hn1, -⟩, htoS⟩
  have hnm := hn1 (by omega)
  obtain ⟨N, rfl⟩ : ∃ N : Nat, nn = (N : Int) := ⟨nn.toNat, by omega⟩
  have no : ∀ i, H.length ≤ i → i ∉ [c] := fun i hi hj => by simp at hj; omega
  have s7 := htoS.1.blk y7 (no _ (by omega))
  have s9 := htoS.1.blk y9 (no _ (by omega))
  have bzS := htoS.1.blk bzY (no _ (by omega))
  have bwS := htoS.1.blk bwY (no _ (by omega))
  have os1 := oy1.keep htoS.1 (fun k hk => no k (by have := hf1Y k hk; omega))
  have os2 := oy2.keep htoS.1 (fun k hk => no k (by have := hf2Y k hk; omega))
  have oDS := oD.keep htoS.1 (fun k hk => no k (by simp at hk; omega))
  have hcS := hcY.next htoS
  clear y7 y9 yD oy1 oy2 oD bzY bwY htoS hcY
  simp
  refine wpS_loop (fun j tm H' => ∃ (i : Nat) (l : List Lf) (y : Box) (f : List Nat) (q : Lf) (ds : List Deed) (fd : List Nat), i + j = N ∧ tm 0 = .ptr c 0 0 ∧ tm 4 = .ptr H.length 0 0 ∧ tm 6 = .ptr (H.length + 1) 0 0 ∧ tm 7 = .ptr K7 0 0 ∧ tm 9 = .ptr K9 0 0 ∧ tm 10 = .w (.lf q) ∧ tm 11 = .int N ∧ tm 12 = .int i ∧ blkAt H' K7 = some ⟨32, .wr, [l1]⟩ ∧ IsBox H' l1 x0 f1 ∧ blkAt H' K9 = some ⟨32, .wr, [l]⟩ ∧ IsBox H' l y f ∧ y.ok = true ∧ IsDeedS H' q ds fd ∧ ds.length = i ∧ CurTo H H' c n ∧ blkAt H' H.length = some ⟨32, .wr, [[.i .i64 0, .i .i64 0, .i .i64 0, .i .i64 0, .i .i64 0, .sl none 0, .sl none 0, .sl none 0, .sl none 0, .sl none 0]]⟩ ∧ blkAt H' (H.length + 1) = some ⟨32, .wr, [[.i .i64 0, .i .i64 0, .i .i64 0, .i .i64 0, .i .i64 0, .sl none 0, .sl none 0, .sl none 0, .sl none 0, .sl none 0]]⟩ ∧ (∀ k ∈ f, K7 < k ∧ k ≠ K9) ∧ (∀ k ∈ fd, K9 < k) ∧ ∀ k ∈ f, k ∉ fd) N (by rw [env_K]; omega)
    ⟨0, l2, x0, f2, .sl (some (KD, 0)) 0, [], [KD], by simp, by simp, by simp, by simp, by simp, by simp, by simp, by simp, by simp, s7, os1, s9, os2, hx0, oDS, rfl, hcS, bzS, bwS, fun k hk => by have := hf2Y k hk; omega, by simp; omega, fun k hk hk2 => by have := hf2Y k hk; simp at hk2; omega⟩ ?_
  rintro j tm A hj ⟨i, l, y, f, q, ds, fd, hij, t0, t4, t6, t7, t9, t10, t11, t12, a7, oa1, a9, oa, hyok, oq, hdl, hcA, bzA, bwA, hfa, hfda, hdj⟩ Q2 hn2 he2 hr2
  have hL := oa.len
  have hT : l.take l.length = l := List.take_length
  rw [hL] at hT
  have hD10 : l.drop 10 = [] := by rw [← hL]; exact List.drop_length
  have d7 := blkAt_len a7
  have d9 := blkAt_len a9
  have hysz := (Box.smallOf hyok).1
  have hysz2 := hysz.sz
  simp [t12, t11]
  refine selS_intro (fun hc1 => ?_) (fun hc1 => ?_)
  · simp at hc1
    have hw : IntKind.i64.wrap ((i : Int) + 1) = (i : Int) + 1 := wrap64 (by omega) (by omega)
    simp [t0, t9, a9, d9, hL, hT]
    refine stpL_runs (l15DrawDeed hcA.2 oa.rd (by have := hysz.net; omega)) ?_
    rintro _ B ⟨⟨d, rfl, hd1, hd2⟩, htoB⟩
    have b7 := htoB.1.blk a7 (no _ (by omega))
    have b9 := htoB.1.blk a9 (no _ (by omega))
    have bzB := htoB.1.blk bzA (no _ (by omega))
    have bwB := htoB.1.blk bwA (no _ (by omega))
    have ob1 := oa1.keep htoB.1 (fun k hk => no k (by have := hf1Y k hk; omega))
    have ob := oa.keep htoB.1 (fun k hk => no k (by have := hfa k hk; omega))
    have oqB := oq.keep htoB.1 (fun k hk => no k (by have := hfda k hk; omega))
    have hcB := hcA.next htoB
    have hAB := htoB.len
    have d9B := blkAt_len b9
    clear oa oa1 oq a7 a9 bzA bwA htoB hcA
    obtain ⟨aq, rfl, owq⟩ := oqB
    simp [Deed.enc, t10]
    refine stpL_append (e := 66) (rows := ds.map Deed.enc) (ys := [d.enc]) (owq.app _) (Sl.of (by simp [Deed.enc])) rfl rfl rfl (by simp) (by simp; omega) (by simp) rfl fun aa C fc hoC hkC hfC => ?_
    have kC : Keep fd B C := hkC.base
    have hltq := owq.lt
    have c13 : blkAt C B.length = some ⟨66, .wr, [[.i .i64 d.kind, .i .i64 d.a, .i .i64 d.inn.kind, .i .i64 d.inn.port, .i .i64 d.inn.vec.root, .i .i64 d.inn.vec.cost, .i .i64 d.inn.vec.bridge, .i .i64 d.inn.vec.port, .i .i64 d.inn.hops, .b d.inn.up]]⟩ := hkC.blk (by simp) (fun h => by have := hltq _ h; omega)
    have c7 := kC.blk b7 (fun h => by have := hfda _ h; omega)
    have c9 := kC.blk b9 (fun h => by have := hfda _ h; omega)
    have bzC := kC.blk bzB (fun h => by have := hfda _ h; omega)
    have bwC := kC.blk bwB (fun h => by have := hfda _ h; omega)
    have oc1 := ob1.keep kC (fun k hk h => by have := hfda _ h; have := hf1Y k hk; omega)
    have oc := ob.keep kC hdj
    have hcC := hcB.own kC (fun k hk => by have := hfda k hk; omega) hcl
    have hBC := kC.1
    have hltb := ob.lt
    have hfc : ∀ k ∈ fc, K9 < k ∧ (k ∈ fd ∨ B.length ≤ k) := fun k hk => by
      rcases hfC k hk with h | h
      · exact ⟨hfda k h, .inl h⟩
      · simp at h; exact ⟨by omega, .inr (by omega)⟩
    have hqC : IsDeedS C (.sl aa (ds.length + 1)) (ds ++ [d]) fc := ⟨aa, by simp, by simpa using hoC⟩
    have d9C := blkAt_len c9
    have d13 := blkAt_len c13
    have hdjC : ∀ k ∈ f, k ∉ fc := fun k hk h => by
      rcases (hfc k h).2 with h | h
      · exact hdj k hk h
      · have := hltb k hk; omega
    have h49 : (H.length != K9) = true := by simp; omega
    simp [t4, t9, c9, d9C, hL, hT, h49]
    refine stpL_runs_f (specCopyBox oc.rd (by omega)) (by rintro _ _ ⟨_, _, _, _, hf⟩; exact hf.1) ?_
    rintro _ _ ⟨l4, f4, rfl, o4, ⟨⟨G4', rfl⟩, hf4⟩⟩
    have h15 := l15One o4 hysz hyok d ⟨hd1, hd2⟩
    simp only [Deed.enc] at h15
    have c13A := blkAt_app c13 G4'
    have d13A : B.length < C.length + G4'.length := by omega
    simp [c13A, d13A]
    refine stpL_runs_w h15 rfl (by rintro _ _ ⟨_, _, _, _, hk, _⟩; have := hk.1; exact this) ?_
    rintro _ D ⟨l5, rfl, bv⟩
    obtain ⟨f5, o5, k5, hf5⟩ := bv
    obtain ⟨z, hz⟩ : ∃ z, z = (deedD y d).1 := ⟨_, rfl⟩
    obtain ⟨cd, hcd⟩ : ∃ cd, cd = (deedD y d).2 := ⟨_, rfl⟩
    have hzs := (deedD_small hyok d).sz
    rw [← hz] at hzs o5
    rw [← hcd]
    have kD : Keep [] C D := (Keep.app [] C G4').next k5 (fun i hi => hf4 i hi)
    have hCD := kD.1
    have e7 := kD.blk c7 (by simp)
    have e9 := kD.blk c9 (by simp)
    have bzD := kD.blk bzC (by simp)
    have bwD := kD.blk bwC (by simp)
    have od1 := oc1.keep kD (by simp)
    have od := oc.keep kD (by simp)
    have hqD := hqC.keep kD (by simp)
    have hcD := hcC.own kD (by simp) hcl
    have hf5' : ∀ k ∈ f5, C.length ≤ k := fun k hk => by
      rcases hf5 k hk with h | h
      · exact hf4 k h
      · rw [List.length_append] at h; omega
    have hL5 := o5.len
    have hT5 : l5.take l5.length = l5 := List.take_length
    rw [hL5] at hT5
    have d9D := blkAt_len e9
    have hltc := hqC.lt
    have e2 := fun G => specBoxOk_is (o5.app G).rd (by omega)
    have o5A := fun G => o5.app G
    have next : ∀ (tm2 : Ab.T), tm2 0 = .ptr c 0 0 → tm2 4 = .ptr H.length 0 0 → tm2 6 = .ptr (H.length + 1) 0 0 → tm2 7 = .ptr K7 0 0 → tm2 9 = .ptr K9 0 0 → tm2 10 = .w (.lf (.sl aa (ds.length + 1))) → tm2 11 = .int N → tm2 12 = .int ((i : Int) + 1) → ∀ G, Q2 .normal tm2 (D ++ G) := by
      intro tm2 s0 s4 s6 s7 s9 s10 s11 s12 G
      refine hn2 (j - 1) _ _ (by omega) ⟨i + 1, l, y, f, _, ds ++ [d], fc, by omega, s0, s4, s6, s7, s9, s10, s11, by simpa using s12, blkAt_app e7 G, od1.app G, blkAt_app e9 G, od.app G, hyok, hqD.app G, by simp [hdl], hcD.app G, blkAt_app bzD G, blkAt_app bwD G, hfa, fun k hk => (hfc k hk).1, hdjC⟩
    have step : ∀ (tm2 : Ab.T), z.ok = true → tm2 0 = .ptr c 0 0 → tm2 4 = .ptr H.length 0 0 → tm2 6 = .ptr (H.length + 1) 0 0 → tm2 7 = .ptr K7 0 0 → tm2 9 = .ptr K9 0 0 → tm2 10 = .w (.lf (.sl aa (ds.length + 1))) → tm2 11 = .int N → tm2 12 = .int ((i : Int) + 1) → ∀ G, Q2 .normal tm2 ((D ++ G).set K9 (some ⟨32, .wr, [l5]⟩)) := by
      intro tm2 hzok s0 s4 s6 s7 s9 s10 s11 s12 G
      have ks := Keep.set (id := K9) (D ++ G) (some ⟨32, .wr, [l5]⟩)
      have ne9 : ∀ i, i ≠ K9 → i ∉ [K9] := fun i hi hj => hi (by simpa using hj)
      refine hn2 (j - 1) _ _ (by omega) ⟨i + 1, l5, z, f5, _, ds ++ [d], fc, by omega, s0, s4, s6, s7, s9, s10, s11, by simpa using s12, ks.blk (blkAt_app e7 G) (ne9 _ (by omega)), (od1.app G).keep ks (fun k hk => ne9 k (by have := hf1Y k hk; omega)), blkAt_set (by simp; omega), (o5.app G).keep ks (fun k hk => ne9 k (by have := hf5' k hk; omega)), hzok, (hqD.app G).keep ks (fun k hk => ne9 k (by have := (hfc k hk).1; omega)), by simp [hdl], (hcD.app G).set (by omega) (by omega) _, ks.blk (blkAt_app bzD G) (ne9 _ (by omega)), ks.blk (blkAt_app bwD G) (ne9 _ (by omega)), fun k hk => by have := hf5' k hk; omega, fun k hk => (hfc k hk).1, fun k hk h => ?_⟩
      have h1 := hltc k h
      have h2 := hf5' k hk
      omega
    simp [hL5, hT5]
    by_cases hc0 : cd = 0
    · simp [hc0, hL5, hT5, e2]
      cases hzok : z.ok
      · simp [t12, hw]
        refine next _ ?_ ?_ ?_ ?_ ?_ ?_ ?_ ?_ _
        all_goals simp [t0, t4, t6, t7, t9, t11]
      · have e9A := fun G => blkAt_app e9 G
        have g9 : K9 < D.length + 1 := by omega
        simp [t9, e9A, g9, hL, hD10, hL5, hT5, t12, hw]
        refine step _ hzok ?_ ?_ ?_ ?_ ?_ ?_ ?_ ?_ _
        all_goals simp [t0, t4, t6, t7, t9, t11]
    · simp [hc0, t12, hw]
      refine next _ ?_ ?_ ?_ ?_ ?_ ?_ ?_ ?_ _
      all_goals simp [t0, t4, t6, t7, t9, t11]
  · simp at hc1
    simp
    refine he2 _ _ _ ?_
    have h49 : (H.length != K9) = true := by simp; omega
    have h4a : ¬ H.length = K7 := by omega
    have dzA := blkAt_len bzA
    have dwA := blkAt_len bwA
    have hsw : ∀ y : Option Blk, blkAt (A.set H.length y) (H.length + 1) = blkAt A (H.length + 1) := fun y => blkAt_set_ne (by omega)
    simp [t4, t6, t7, t9, t10, a7, d7, a9, d9, hL1, hT1, hL, hT, h49, bzA, dzA, bwA, dwA, hsw]
    refine hQ _ _ _ (by simp) ?_
    obtain ⟨HF, hHF⟩ : ∃ HF : Heap, HF = (A.set H.length (some ⟨32, .wr, [l1]⟩)).set (H.length + 1) (some ⟨32, .wr, [l]⟩) := ⟨_, rfl⟩
    have kF : Keep [H.length, H.length + 1] A HF := by
      rw [hHF]
      exact (Keep.set _ _).trans (Keep.set _ _) (fun i hi _ => by simp at hi; simp [hi]) (fun i hi _ => by simp at hi; simp [hi])
    have nF : ∀ k, H.length + 2 ≤ k → k ∉ [H.length, H.length + 1] := fun k hk h => by simp at h; omega
    have f4 : blkAt HF H.length = some ⟨32, .wr, [l1]⟩ := by rw [hHF, blkAt_set_ne (by omega)]; exact blkAt_set dzA
    have f6 : blkAt HF (H.length + 1) = some ⟨32, .wr, [l]⟩ := by rw [hHF]; exact blkAt_set (by simpa using dwA)
    have of1 := oa1.keep kF (fun k hk => nF k (by have := hf1Y k hk; omega))
    have of2 := oa.keep kF (fun k hk => nF k (by have := hfa k hk; omega))
    have oqF := oq.keep kF (fun k hk => nF k (by have := hfda k hk; omega))
    have hcF : CurTo H HF c n := by rw [hHF]; exact (hcA.set (by omega) (by omega) _).set (by omega) (by omega) _
    have hil : i = N := by omega
    rw [← hHF]
    obtain ⟨aq, rfl, owq⟩ := oqF
    simp [Tryz.f83, f4, f6, hL1, hT1, hL, hT, t4, t6, -Int.ofNat_le]
    refine ⟨?_, hcF.leave hc _⟩
    rcases leave_opt H HF [W.agg l1, W.lf (.sl aq ds.length), W.agg l] with e | ⟨e, hr⟩ <;> rw [e]
    · refine ⟨l1, x0, f1, _, ds, fd, l, ⟨rfl, rfl, rfl⟩, of1, ⟨aq, rfl, owq⟩, y, f, of2, hx0, hyok, hxid, by omega, fun k hk => by have := hf1Y k hk; omega, fun k hk => by have := hfda k hk; omega, fun k hk => by have := hfa k hk; omega, hdj, fun k hk => ⟨fun h => by have := hfda k h; have := hf1Y k hk; omega, fun h => by have := hfa k h; have := hf1Y k hk; omega⟩⟩
    · simp at hr
      refine ⟨l1, x0, [], _, ds, [], l, ⟨rfl, rfl, rfl⟩, of1.free (by simpa using hr.1) H, (IsSl.free ⟨aq, rfl, owq⟩ hr.2.1 H), y, [], of2.free (by simpa using hr.2.2) H, hx0, hyok, hxid, by omega, by simp, by simp, by simp, by simp, by simp⟩

theorem l15DrawRight {H : Heap} {c n : Nat} (hc : Cur H c n) : Runs env 89 [.ptr c 0 0] H fun v H' => (∃ (l : List Lf) (x : Box) (fp : List Nat), v = .agg l ∧ IsBox H' l x fp ∧ x.ok = true ∧ ∀ i ∈ fp, H.length ≤ i) ∧ CurTo H H' c n := by
  have hcl := hc.lt
  refine Runs.walk ok89 Tryz.func89 rfl (by simp [Tryz.f89]) fun Q hQ => ?_
  simp only [Tryz.f89, strip, stripL, stripI, stripG, chkT, tagsB, tagsL, tagD, addT, tagA, lookN, tagOp, elmT, ty22, ty26, ty27, ty28, ty29, ty30, ty41, ty53, ty56, Nat.reduceEqDiff, if_false, reduceIte, Option.getD_some, Option.getD_none, dstAt, dstOk, Nat.reduceLT, decide_true, if_true]
  have hcX := hc.app [some ⟨32, .wr, [[.i .i64 0, .i .i64 0, .i .i64 0, .i .i64 0, .i .i64 0, .sl none 0, .sl none 0, .sl none 0, .sl none 0, .sl none 0]]⟩]
  simp
  refine stpL_runs (l15DrawRun hcX 50 (by omega) (by omega)) ?_
  rintro _ S ⟨⟨l1, x, f1, q, ds, fd, l2, y, f2, rfl, o1, oq, o2, hx, hy, hxn, hln, hf1, hfd, hf2, -, -⟩, hto⟩
  have bz := hto.1.blk (id := H.length) (b := ⟨32, .wr, [[.i .i64 0, .i .i64 0, .i .i64 0, .i .i64 0, .i .i64 0, .sl none 0, .sl none 0, .sl none 0, .sl none 0, .sl none 0]]⟩) (by simp) (by simp; omega)
  have hL1 := o1.len
  have hT1 : l1.take l1.length = l1 := List.take_length
  rw [hL1] at hT1
  have hL2 := o2.len
  have hT2 : l2.take l2.length = l2 := List.take_length
  rw [hL2] at hT2
  have hl := hto.len
  simp at hl
  have hlt2 := o2.lt
  have bzA := fun G => blkAt_app bz G
  have g1 : H.length < S.length + (1 + 1) := by omega
  have g2 : H.length < S.length + 2 := by omega
  simp [hL1, hT1, hL2, hT2, bzA, g1, g2, -set_lt]
  refine hQ _ _ _ (by simp) ?_
  obtain ⟨HF, hHF⟩ : ∃ HF : Heap, HF = List.set (S ++ [some ⟨32, .wr, [l1]⟩, some ⟨32, .wr, [l2]⟩] : Heap) H.length (some ⟨32, .wr, [l2]⟩) := ⟨_, rfl⟩
  have f0 : blkAt HF H.length = some ⟨32, .wr, [l2]⟩ := by rw [hHF]; exact blkAt_set (by simp; omega)
  have hcF : CurTo H HF c n := by rw [hHF]; exact ((hto.base).app _).set (by omega) (by omega) _
  have oF : IsBox HF l2 y f2 := by rw [hHF]; exact (o2.app _).keep (Keep.set _ _) (fun k hk h => by have := hf2 k hk; simp at h this; omega)
  rw [← hHF]
  simp [Tryz.f89, f0, hL2, hT2]
  refine ⟨?_, hcF.leave hc _⟩
  rcases leave_opt H HF [W.agg l2] with e | ⟨e, hr⟩ <;> rw [e]
  · exact ⟨y, f2, oF, hy, fun k hk => by have := hf2 k hk; simp at this; omega⟩
  · exact ⟨y, [], oF.free (by simpa using hr) H, hy, by simp⟩

theorem l12DrawRight {H : Heap} {c n : Nat} (hc : Cur H c n) : Runs env 124 [.ptr c 0 0] H fun v H' => (∃ (l : List Lf) (m : Minder) (fp : List Nat), v = .agg l ∧ IsMinder H' l m fp ∧ m.ok = true ∧ ∀ i ∈ fp, H.length ≤ i) ∧ CurTo H H' c n := by
  have hcl := hc.lt
  refine Runs.walk ok124 Tryz.func124 rfl (by simp [Tryz.f124]) fun Q hQ => ?_
  simp only [Tryz.f124, strip, stripL, stripI, stripG, chkT, tagsB, tagsL, tagD, addT, tagA, lookN, tagOp, elmT, ty22, ty26, ty27, ty28, ty29, ty30, ty41, ty53, ty56, Nat.reduceEqDiff, if_false, reduceIte, Option.getD_some, Option.getD_none, dstAt, dstOk, Nat.reduceLT, decide_true, if_true]
  have hcX := hc.app [some ⟨52, .wr, [[.b false, .i .i64 0, .i .i64 0, .sl none 0, .i .i64 0, .i .i64 0, .i .i64 0]]⟩]
  simp
  refine stpL_runs (l15DrawRight hcX) ?_
  rintro _ S ⟨⟨l, x, fp, rfl, ox, hx, hfp⟩, hto⟩
  have bz := hto.1.blk (id := H.length) (b := ⟨52, .wr, [[.b false, .i .i64 0, .i .i64 0, .sl none 0, .i .i64 0, .i .i64 0, .i .i64 0]]⟩) (by simp) (by simp; omega)
  have hL := ox.len
  have h2 := (Box.right hx).two
  obtain ⟨q0, q1, q2, q3, q4, f0, f1, f2, f3, f4, rfl, ⟨a, rows, fp0, fps, rfl, ho, hp, rfl, hnd0⟩, -, -, -, -, rfl, -⟩ := ox
  have hl := hto.len
  simp at hl
  simp [Box.enc, fieldV, env_P, Tryz.underlying32]
  refine stpL_runs (l1Below hto.2 2) ?_
  rintro _ T ⟨⟨k, rfl, hk0, hk1, -⟩, hto2⟩
  have hk2 := hk1 (by omega)
  obtain ⟨k, rfl⟩ : ∃ k' : Nat, k = (k' : Int) := ⟨k.toNat, by omega⟩
  have hkl : k < x.two.length := by omega
  obtain ⟨g1, g2, hM⟩ := hp.get hkl
  obtain ⟨id, bl, rfl, rfl, hb, hbe, hbm, hpre⟩ := ho.blk (by rintro rfl; simp at g1)
  obtain ⟨tl, htl⟩ := hpre
  have hrow : bl.rows[k]? = some rows[k] := by rw [← htl, List.getElem?_append_left g1, List.getElem?_eq_getElem g1]
  have no : ∀ i, H.length ≤ i → i ∉ [c] := fun i hi hj => by simp at hj; omega
  have hidH : H.length ≤ id := by have := hfp id (by simp); simp at this; omega
  have hbT := hto2.1.blk hb (no _ hidH)
  have dT := blkAt_len hbT
  have hMT := hM.keep hto2.1 (fun i hi => no i (by have := hfp i (by simp only [List.mem_append]; exact .inl (.inr (flat_mem (List.getElem?_eq_getElem g2) hi))); simp at this; omega))
  have mok := (Box.right hx).ok _ (List.getElem_mem hkl)
  have hms : x.two[k].sz ≤ 1048576 := by simp [Minder.ok, logOk] at mok; unfold Minder.sz; omega
  have hLr := hMT.len
  have hTr : rows[k].take rows[k].length = rows[k] := List.take_length
  rw [hLr] at hTr
  have hkI : (k : Int) < x.two.length := by omega
  have hkI0 : (0 : Int) ≤ k := by omega
  simp [indexAddrV, elemIs, hbT, dT, hbe, hkl, hkI, hrow, hLr, hTr]
  refine stpL_runs (specCopyM hMT.rd hms) ?_
  rintro _ _ ⟨l5, f5, rfl, o5, ⟨⟨G5, rfl⟩, hf5⟩⟩
  have bz2 := hto2.1.blk bz (no _ (by omega))
  have bz3 := blkAt_app bz2 G5
  have d3 := blkAt_len bz3
  have hL5 := o5.len
  have hT5 : l5.take l5.length = l5 := List.take_length
  rw [hL5] at hT5
  have hlT := hto2.len
  have d3' : H.length < T.length + G5.length := by simpa using d3
  simp [bz3, d3', hL5, hT5, -set_lt]
  refine hQ _ _ _ (by simp) ?_
  obtain ⟨HF, hHF⟩ : ∃ HF : Heap, HF = List.set (T ++ G5) H.length (some ⟨52, .wr, [l5]⟩) := ⟨_, rfl⟩
  have f0' : blkAt HF H.length = some ⟨52, .wr, [l5]⟩ := by rw [hHF]; exact blkAt_set d3
  have hcF : CurTo H HF c n := by rw [hHF]; exact ((hto.base.next hto2).app _).set (by omega) (by omega) _
  have oF := o5.keep (Keep.set (id := H.length) (T ++ G5) (some ⟨52, .wr, [l5]⟩)) (fun i hi h => by have := hf5 i hi; simp at h; omega)
  rw [← hHF] at oF ⊢
  simp [Tryz.f124, f0', hL5, hT5]
  refine ⟨?_, hcF.leave hc _⟩
  rcases leave_opt H HF [W.agg l5] with e | ⟨e, hr⟩ <;> rw [e]
  · exact ⟨x.two[k], f5, oF, mok, fun i hi => by have := hf5 i hi; omega⟩
  · exact ⟨x.two[k], [], oF.free (by simpa using hr) H, mok, by simp⟩

theorem l12Draw {H : Heap} {c n : Nat} (hc : Cur H c n) : Runs env 90 [.ptr c 0 0] H fun v H' => (∃ (l : List Lf) (m : Minder) (fp : List Nat), v = .agg l ∧ IsMinder H' l m fp ∧ m.sz ≤ 100 ∧ I64 m.ackLife ∧ ∀ i ∈ fp, H.length ≤ i) ∧ CurTo H H' c n := by
  have hcl := hc.lt
  refine Runs.walk ok90 Tryz.func90 rfl (by simp [Tryz.f90]) fun Q hQ => ?_
  simp only [Tryz.f90, strip, stripL, stripI, stripG, chkT, tagsB, tagsL, tagD, addT, tagA, lookN, tagOp, elmT, ty22, ty26, ty27, ty28, ty29, ty30, ty41, ty53, ty56, Nat.reduceEqDiff, if_false, reduceIte, Option.getD_some, Option.getD_none, dstAt, dstOk, Nat.reduceLT, decide_true, if_true]
  have fin : ∀ (HF : Heap) (tm : Ab.T) (x : Minder) (a : Option (Nat × Nat)) (fp : List Nat), tm 2 = .ptr H.length 0 0 → blkAt HF H.length = some ⟨52, .wr, [x.enc a]⟩ → Own HF 64 a (x.log.map In.enc) fp → x.sz ≤ 100 → I64 x.ackLife → (∀ i ∈ fp, H.length ≤ i) → CurTo H HF c n → Q .ret tm HF := by
    intro HF tm x a fp t2 hb ho hs hak hf hto
    refine hQ _ _ _ (by simp) ?_
    have hres : resT env.τ tm HF (Tryz.f90.results.toList) = some [W.agg (x.enc a)] := by simp [Tryz.f90, t2, hb, Minder.enc]
    rw [hres, optK_some]
    refine ⟨?_, hto.leave hc _⟩
    have oF : IsMinder HF (x.enc a) x fp := ⟨a, rfl, ho⟩
    rcases leave_opt H HF [W.agg (x.enc a)] with e | ⟨e, hr⟩ <;> rw [e]
    · exact ⟨_, x, fp, rfl, oF, hs, hak, hf⟩
    · exact ⟨_, x, [], rfl, oF.free (by simpa using hr) H, hs, hak, by simp⟩
  have hcX := hc.app [some ⟨52, .wr, [[.b false, .i .i64 0, .i .i64 0, .sl none 0, .i .i64 0, .i .i64 0, .i .i64 0]]⟩]
  have bzX : blkAt (H ++ [some ⟨52, .wr, [[.b false, .i .i64 0, .i .i64 0, .sl none 0, .i .i64 0, .i .i64 0, .i .i64 0]]⟩]) H.length = some ⟨52, .wr, [[.b false, .i .i64 0, .i .i64 0, .sl none 0, .i .i64 0, .i .i64 0, .i .i64 0]]⟩ := by simp
  have hlX : (H ++ [some ⟨52, .wr, [[.b false, .i .i64 0, .i .i64 0, .sl none 0, .i .i64 0, .i .i64 0, .i .i64 0]]⟩] : Heap).length = H.length + 1 := by simp
  simp
  refine stpL_runs (l12DrawRight hcX) ?_
  rintro _ H1 ⟨⟨l, m, fp, rfl, ⟨a, rfl, ow⟩, mok, hfp⟩, hto1⟩
  have hms : m.log.length ≤ 60 := by simp [Minder.ok, logOk] at mok; omega
  have hakm : I64 m.ackLife := by simp [Minder.ok] at mok; unfold I64; omega
  have bz1 := hto1.1.blk bzX (by simp; omega)
  have dz1 := blkAt_len bz1
  have hcc1 := hto1.base
  have hl1 := hto1.len
  have hlt1 := ow.lt
  rw [hlX] at hl1 hfp
  simp [Minder.enc]
  have hcM := hto1.2.app [some ⟨52, .wr, [[.b m.up, .i .i64 m.life, .i .i64 m.epoch, .sl a m.log.length, .i .i64 m.said, .i .i64 m.acked, .i .i64 m.ackLife]]⟩]
  refine stpL_runs (l1Below hcM 10) ?_
  rintro _ H2 ⟨⟨k, rfl, -⟩, hto2⟩
  have b3 : blkAt H2 H1.length = some ⟨52, .wr, [[.b m.up, .i .i64 m.life, .i .i64 m.epoch, .sl a m.log.length, .i .i64 m.said, .i .i64 m.acked, .i .i64 m.ackLife]]⟩ := hto2.1.blk (by simp) (by simp; omega)
  have bz2 := hto2.1.blk (blkAt_app bz1 _) (by simp; omega)
  have d3 := blkAt_len b3
  have dz2 := blkAt_len bz2
  have hcc2 := hcc1.next hto2.base
  have no : ∀ i ∈ fp, i ∉ [c] := fun i hi h => by have := hfp i hi; simp at h; omega
  have ow2 := (ow.app [some ⟨52, .wr, [[.b m.up, .i .i64 m.life, .i .i64 m.epoch, .sl a m.log.length, .i .i64 m.said, .i .i64 m.acked, .i .i64 m.ackLife]]⟩]).keep hto2.1 no
  have hl2 := hto2.len
  simp at hl2
  have hne3 : ∀ (Y : Heap) (y : Option Blk), blkAt (List.set Y H1.length y) H.length = blkAt Y H.length := fun Y y => blkAt_set_ne (by omega)
  have hne4 : ∀ (Y : Heap) (y : Blk), H1.length < Y.length → blkAt (List.set Y H1.length (some y)) H1.length = some y := fun Y y h => blkAt_set h
  have kp : ∀ (Y : Heap) (y z : Option Blk), Own Y 64 a (m.log.map In.enc) fp → Own ((List.set Y H1.length y).set H.length z) 64 a (m.log.map In.enc) fp := fun Y y z h =>
    (h.keep (Keep.set (id := H1.length) Y y) (fun i hi h => by have := hlt1 i hi; simp at h; omega)).keep (Keep.set (id := H.length) _ z) (fun i hi h => by have := hfp i hi; simp at h; omega)
  have kp1 : ∀ (Y : Heap) (z : Option Blk), Own Y 64 a (m.log.map In.enc) fp → Own (Y.set H.length z) 64 a (m.log.map In.enc) fp := fun Y z h =>
    h.keep (Keep.set (id := H.length) _ z) (fun i hi h => by have := hfp i hi; simp at h; omega)
  have hf' : ∀ i ∈ fp, H.length ≤ i := fun i hi => by have := hfp i hi; omega
  by_cases c0 : k = 0
  · simp [c0, b3, d3, bz2, dz2, hne3, hne4]
    refine fin _ _ ⟨!m.up, m.life, m.epoch, m.log, m.said, m.acked, m.ackLife⟩ a fp ?_ (blkAt_set (Nat.lt_of_lt_of_eq dz2 (List.length_set).symm)) (kp _ _ _ ow2) (by simp [Minder.sz]; omega) hakm hf' ((hcc2.set (by omega) (by omega) _).set (by omega) (by omega) _)
    simp
  by_cases c1 : k = 1
  · simp [c1]
    refine stpL_runs (l1Below hto2.2 9) ?_
    rintro _ H3 ⟨⟨y, rfl, -⟩, hto3⟩
    have b33 := hto3.1.blk b3 (by simp; omega)
    have bz3 := hto3.1.blk bz2 (by simp; omega)
    have ow3 := ow2.keep hto3.1 no
    have d33 := blkAt_len b33
    have dz3 := blkAt_len bz3
    have hcc3 := hcc2.next hto3
    simp [b33, d33, bz3, dz3, hne3, hne4]
    refine fin _ _ ⟨m.up, m.life, m.epoch, m.log, IntKind.i64.wrap (y - 1), m.acked, m.ackLife⟩ a fp ?_ (blkAt_set (Nat.lt_of_lt_of_eq dz3 (List.length_set).symm)) (kp _ _ _ ow3) (by simp [Minder.sz]; omega) hakm hf' ((hcc3.set (by omega) (by omega) _).set (by omega) (by omega) _)
    simp
  by_cases c2 : k = 2
  · simp [c2]
    refine stpL_runs (l1Below hto2.2 9) ?_
    rintro _ H3 ⟨⟨y, rfl, -⟩, hto3⟩
    have b33 := hto3.1.blk b3 (by simp; omega)
    have bz3 := hto3.1.blk bz2 (by simp; omega)
    have ow3 := ow2.keep hto3.1 no
    have d33 := blkAt_len b33
    have dz3 := blkAt_len bz3
    have hcc3 := hcc2.next hto3
    simp [b33, d33, bz3, dz3, hne3, hne4]
    refine fin _ _ ⟨m.up, m.life, m.epoch, m.log, m.said, IntKind.i64.wrap (y - 1), m.ackLife⟩ a fp ?_ (blkAt_set (Nat.lt_of_lt_of_eq dz3 (List.length_set).symm)) (kp _ _ _ ow3) (by simp [Minder.sz]; omega) hakm hf' ((hcc3.set (by omega) (by omega) _).set (by omega) (by omega) _)
    simp
  by_cases c3 : k = 3
  · simp [c3, b3, d3]
    refine stpL_cur (l8DrawBent hto2.2) hto2.2 (fun v H' h => h.2) ?_
    rintro _ H3 ⟨⟨y, rfl⟩, hto3⟩
    have b33 := hto3.1.blk b3 (by simp; omega)
    have bz3 := hto3.1.blk bz2 (by simp; omega)
    have ow3 := ow2.keep hto3.1 no
    have hcc3 := hcc2.next hto3
    have hl3 := hto3.len
    simp [In.enc]
    refine stpL_append (e := 64) (rows := m.log.map In.enc) (ys := [y.enc]) (ow3.app _) (Sl.of (by simp [In.enc])) rfl rfl rfl (by simp) (by simp; omega) (by simp) rfl fun aa C fc hoC hkC hfC => ?_
    have kC : Keep fp H3 C := hkC.base
    have hC := kC.1
    have bC := kC.blk b33 (fun h => by have := hlt1 _ h; omega)
    have bzC := kC.blk bz3 (fun h => by have := hfp _ h; omega)
    have dC := blkAt_len bC
    have dzC := blkAt_len bzC
    have hcC := hcc3.own kC (fun k hk => by have := hfp k hk; omega) hcl
    have hfc : ∀ i ∈ fc, H.length < i ∧ i ≠ H1.length := fun i hi => by
      rcases hfC i hi with h | h
      · exact ⟨by have := hfp i h; omega, by have := hlt1 i h; omega⟩
      · simp at h; omega
    simp [bC, dC, bzC, dzC, hne3, hne4]
    refine fin _ _ ⟨m.up, m.life, m.epoch, m.log ++ [y], m.said, m.acked, m.ackLife⟩ aa fc ?_ (by simp [Minder.enc]; exact blkAt_set (Nat.lt_of_lt_of_eq dzC (List.length_set).symm)) ?_ (by simp [Minder.sz]; omega) hakm (fun i hi => by have := hfc i hi; omega) ((hcC.set (by omega) (by omega) _).set (by omega) (by omega) _)
    · simp
    · simp only [List.map_append, List.map_cons, List.map_nil]
      exact (hoC.keep (Keep.set (id := H1.length) C _) (fun i hi h => by have := hfc i hi; simp at h; omega)).keep (Keep.set (id := H.length) _ _) (fun i hi h => by have := hfc i hi; simp at h; omega)
  by_cases c4 : k = 4
  · simp [c4]
    have hcL := hto2.2.app [some ⟨3, .wr, [encI (-1), encI 0, encI 1, encI 100001]⟩]
    simp only [encI] at hcL
    refine stpL_runs (l1PickInt (xs := [(-1), 0, 1, 100001]) hcL (Sl.of (by simp [encI])) (by simp) (by simp)) ?_
    rintro _ H3 ⟨⟨y, rfl, -⟩, hto3⟩
    have hto3 := hto3.base
    have b33 := hto3.1.blk b3 (by simp; omega)
    have bz3 := hto3.1.blk bz2 (by simp; omega)
    have ow3 := ow2.keep hto3.1 no
    have d33 := blkAt_len b33
    have dz3 := blkAt_len bz3
    have hcc3 := hcc2.next hto3
    simp [b33, d33, bz3, dz3, hne3, hne4]
    refine fin _ _ ⟨m.up, m.life, y, m.log, m.said, m.acked, m.ackLife⟩ a fp ?_ (blkAt_set (Nat.lt_of_lt_of_eq dz3 (List.length_set).symm)) (kp _ _ _ ow3) (by simp [Minder.sz]; omega) hakm hf' ((hcc3.set (by omega) (by omega) _).set (by omega) (by omega) _)
    simp
  simp [c0, c1, c2, c3, c4, b3, d3, bz2, dz2]
  refine fin _ _ m a fp ?_ (blkAt_set dz2) (kp1 _ _ ow2) (by simp [Minder.sz]; omega) hakm hf' (hcc2.set (by omega) (by omega) _)
  simp

theorem l13DrawReg {H : Heap} {c n : Nat} (hc : Cur H c n) : Runs env 91 [.ptr c 0 0] H fun v H' => (∃ x : Reg, v = .agg x.enc) ∧ CurTo H H' c n := by
  have hcl := hc.lt
  refine Runs.walk ok91 Tryz.func91 rfl (by simp [Tryz.f91]) fun Q hQ => ?_
  simp only [Tryz.f91, strip, stripL, stripI, stripG, chkT, tagsB, tagsL, tagD, addT, tagA, lookN, tagOp, elmT, ty22, ty26, ty27, ty28, ty29, ty30, ty41, ty53, ty56, Nat.reduceEqDiff, if_false, reduceIte, Option.getD_some, Option.getD_none, dstAt, dstOk, Nat.reduceLT, decide_true, if_true]
  have fin : ∀ (HF : Heap) (tm : Ab.T) (x : Reg), tm 2 = .ptr (H.length) 0 0 → blkAt HF (H.length) = some ⟨25, .wr, [x.enc]⟩ → CurTo H HF c n → Q .ret tm HF := by
    intro HF tm x t2 hb hto
    refine hQ _ _ _ (by simp) ?_
    have hres : resT env.τ tm HF (Tryz.f91.results.toList) = some [W.agg x.enc] := by simp [Tryz.f91, t2, hb, Reg.enc]
    rw [hres, optK_some]
    exact ⟨⟨x, rfl⟩, hto.leave hc _⟩
  have hcX := hc.app [some ⟨25, .wr, [[.i .i64 0, .i .i64 0, .i .i64 0]]⟩]
  have bzX : blkAt (H ++ [some ⟨25, .wr, [[.i .i64 0, .i .i64 0, .i .i64 0]]⟩]) H.length = some ⟨25, .wr, [[.i .i64 0, .i .i64 0, .i .i64 0]]⟩ := by simp
  have hlX : (H ++ [some ⟨25, .wr, [[.i .i64 0, .i .i64 0, .i .i64 0]]⟩] : Heap).length = H.length + 1 := by simp
  simp
  refine stpL_runs (l15DrawRight hcX) ?_
  rintro _ H1 ⟨⟨l, x, fp, rfl, ox, -, -⟩, hto1⟩
  obtain ⟨q0, q1, q2, q3, q4, f0, f1, f2, f3, f4, rfl, -⟩ := ox
  obtain ⟨r, hr⟩ : ∃ r, r = x.reg := ⟨_, rfl⟩
  have bz1 := hto1.1.blk bzX (by simp; omega)
  have dz1 := blkAt_len bz1
  have hcc1 := hto1.base
  have hl1 := hto1.len
  rw [hlX] at hl1
  simp [Box.enc, fieldV, env_P, Tryz.underlying32, ← hr]
  have hcM := hto1.2.app [some ⟨25, .wr, [[.i .i64 r.epoch, .i .i64 r.owner, .i .i64 r.pair]]⟩]
  refine stpL_runs (l1Below hcM 10) ?_
  rintro _ H2 ⟨⟨k, rfl, -⟩, hto2⟩
  have b3 : blkAt H2 H1.length = some ⟨25, .wr, [[.i .i64 r.epoch, .i .i64 r.owner, .i .i64 r.pair]]⟩ := hto2.1.blk (by simp) (by simp; omega)
  have bz2 := hto2.1.blk (blkAt_app bz1 _) (by simp; omega)
  have d3 := blkAt_len b3
  have dz2 := blkAt_len bz2
  have hcc2 := hcc1.next hto2.base
  have hne3 : ∀ (Y : Heap) (y : Option Blk), blkAt (List.set Y H1.length y) H.length = blkAt Y H.length := fun Y y => blkAt_set_ne (by omega)
  have hne4 : ∀ (Y : Heap) (y : Blk), H1.length < Y.length → blkAt (List.set Y H1.length (some y)) H1.length = some y := fun Y y h => blkAt_set h
  by_cases c0 : k = 0
  · simp [c0]
    have hcL := hto2.2.app [some ⟨3, .wr, [encI 0, encI 1, encI 100000, encI 100001]⟩]
    simp only [encI] at hcL
    refine stpL_runs (l1PickInt (xs := [0, 1, 100000, 100001]) hcL (Sl.of (by simp [encI])) (by simp) (by simp)) ?_
    rintro _ H3 ⟨⟨y, rfl, -⟩, hto3⟩
    have hto3 := hto3.base
    have b33 := hto3.1.blk b3 (by simp; omega)
    have bz3 := hto3.1.blk bz2 (by simp; omega)
    have d33 := blkAt_len b33
    have dz3 := blkAt_len bz3
    have hcc3 := hcc2.next hto3
    simp [b33, d33, bz3, dz3, hne3, hne4, Reg.enc]
    refine fin _ _ ⟨y, r.owner, r.pair⟩ ?_ (blkAt_set (Nat.lt_of_lt_of_eq dz3 (List.length_set).symm)) ((hcc3.set (by omega) (by omega) _).set (by omega) (by omega) _)
    simp
  by_cases c1 : k = 1
  · simp [c1]
    refine stpL_runs (l1Below hto2.2 4) ?_
    rintro _ H3 ⟨⟨y, rfl, -⟩, hto3⟩
    have b33 := hto3.1.blk b3 (by simp; omega)
    have bz3 := hto3.1.blk bz2 (by simp; omega)
    have d33 := blkAt_len b33
    have dz3 := blkAt_len bz3
    have hcc3 := hcc2.next hto3
    simp [b33, d33, bz3, dz3, hne3, hne4, Reg.enc]
    refine fin _ _ ⟨r.epoch, IntKind.i64.wrap (y - 1), r.pair⟩ ?_ (blkAt_set (Nat.lt_of_lt_of_eq dz3 (List.length_set).symm)) ((hcc3.set (by omega) (by omega) _).set (by omega) (by omega) _)
    simp
  by_cases c2 : k = 2
  · simp [c2]
    have hcL := hto2.2.app [some ⟨3, .wr, [encI (-1), encI 0, encI 1, encI 2]⟩]
    simp only [encI] at hcL
    refine stpL_runs (l1PickInt (xs := [(-1), 0, 1, 2]) hcL (Sl.of (by simp [encI])) (by simp) (by simp)) ?_
    rintro _ H3 ⟨⟨y, rfl, -⟩, hto3⟩
    have hto3 := hto3.base
    have b33 := hto3.1.blk b3 (by simp; omega)
    have bz3 := hto3.1.blk bz2 (by simp; omega)
    have d33 := blkAt_len b33
    have dz3 := blkAt_len bz3
    have hcc3 := hcc2.next hto3
    simp [b33, d33, bz3, dz3, hne3, hne4, Reg.enc]
    refine fin _ _ ⟨r.epoch, r.owner, y⟩ ?_ (blkAt_set (Nat.lt_of_lt_of_eq dz3 (List.length_set).symm)) ((hcc3.set (by omega) (by omega) _).set (by omega) (by omega) _)
    simp
  simp [c0, c1, c2, b3, d3, bz2, dz2]
  refine fin _ _ r ?_ (blkAt_set dz2) (hcc2.set (by omega) (by omega) _)
  simp

theorem keepCut {f : List Nat} {A B : Heap} (h : Keep f A B) : Keep f A (B.take A.length) := ⟨by have := h.1; simp; omega, fun id hi hn => by rw [List.getElem?_take_of_lt hi]; exact h.2 id hi hn⟩
theorem keepTake (n : Nat) (B : Heap) : Keep [] (B.take n) B := ⟨by simp; omega, fun id hi _ => by simp at hi; rw [List.getElem?_take_of_lt (by omega)]⟩
/-- A minder put into a box, where meanwhile a cursor went on. -/
theorem boxPut {A B : Heap} {c id : Nat} {l : List Lf} {x : Box} {fp : List Nat} (hb : blkAt A id = some ⟨32, .wr, [l]⟩) (hI : IsBox A l x fp) (hid : id ∉ fp) (hk : Keep [c] A B) (hc : c ∉ fp) (hci : c ≠ id) {s : Nat} (hs : s < x.two.length) {l2 : List Lf} {m : Minder} {f2 : List Nat} (hm : IsMinder B l2 m f2) (hf2 : ∀ i ∈ f2, A.length ≤ i) :
    ∃ (bid : Nat) (blo : Blk) (q1 q2 q3 q4 : Lf) (row : List Lf) (fp' : List Nat), l = x.enc (.sl (some (bid, 0)) x.two.length) q1 q2 q3 q4 ∧ bid ∈ fp ∧ bid ≠ id ∧ blkAt B bid = some blo ∧ blo.elem = 52 ∧ blo.md = .wr ∧ blo.rows[s]? = some row ∧ row.length = 7 ∧
      blkAt (B.set bid (some ⟨52, .wr, blo.rows.set s l2⟩)) id = some ⟨32, .wr, [l]⟩ ∧ IsBox (B.set bid (some ⟨52, .wr, blo.rows.set s l2⟩)) l (setTwo x s m) fp' ∧ ∀ i ∈ fp', i ∈ fp ∨ A.length ≤ i := by
  have k1 := keepCut hk
  have k2 := keepTake A.length B
  have hDl : (B.take A.length).length = A.length := by have := hk.1; simp; omega
  have hbD := k1.blk hb (by simpa using fun h => hci h.symm)
  have hID := hI.keep k1 (fun i hi h => by simp at h; subst h; exact hc hi)
  obtain ⟨bid, blo, q1, q2, q3, q4, row, rfl, hbne, hbl, hbb, hbe, hbm, hrow, hrd, hput⟩ := boxTwo hbD hID hid hs
  obtain ⟨fp', z1, z2, z3, z4, z5⟩ := hput B l2 m f2 k2 hm (fun i hi => by rw [hDl]; exact hf2 i hi)
  refine ⟨bid, blo, q1, q2, q3, q4, row, fp', rfl, ?_, hbne, k2.blk hbb (by simp), hbe, hbm, hrow, hrd.len, z1, z2, fun i hi => by have := z5 i hi; rwa [hDl] at this⟩
  obtain ⟨_, _, _, _, _, f0, f1, f2', f3, f4, e, ⟨a, rows, fp0, fps, ea, ho, -, ef, -⟩, -, -, -, -, ef2, -⟩ := hID
  simp only [Box.enc, List.cons.injEq, and_true, true_and] at e
  obtain ⟨e, -⟩ := e
  rw [ea] at e
  injection e with e
  have := ho.ids bid 0 e.symm
  rw [ef2, ef]
  simp [this]

def setPorts (x : Box) (p : Int) : Box := ⟨x.id, p, x.reg, x.two, x.net, x.gates, x.line, x.said⟩
def setGate (x : Box) (g : Bool) : Box := ⟨x.id, x.ports, x.reg, x.two, x.net, x.gates.set 0 g, x.line, x.said⟩
theorem boxPorts {H H1 : Heap} {id : Nat} {x : Box} {q0 q1 q2 q3 q4 : Lf} {fp : List Nat} (hidl : id < H.length) (hI : IsBox H (x.enc q0 q1 q2 q3 q4) x fp) (hid : id ∉ fp) (k : Keep [] H H1) (p : Int) :
    BoxTo H (H1.set id (some ⟨32, .wr, [(setPorts x p).enc q0 q1 q2 q3 q4]⟩)) id fp (setPorts x p) := by
  have ks := Keep.set (id := id) H1 (some ⟨32, .wr, [(setPorts x p).enc q0 q1 q2 q3 q4]⟩)
  have hl := k.1
  have h2 := (hI.keep k (by simp)).keep ks (fun i hi hj => by simp at hj; subst hj; exact hid hi)
  obtain ⟨r0, r1, r2, r3, r4, f0, f1, f2, f3, f4, e, i0, i1, i2, i3, i4, hf, hnd⟩ := h2
  simp only [Box.enc, List.cons.injEq, and_true, true_and] at e
  obtain ⟨rfl, rfl, rfl, rfl, rfl⟩ := e
  exact ⟨_, fp, blkAt_set (by omega), ⟨q0, q1, q2, q3, q4, f0, f1, f2, f3, f4, rfl, i0, i1, i2, i3, i4, hf, hnd⟩, hid, k.trans ks (by simp) (fun i hi _ => by simp at hi; simp [hi]), fun i hi => .inl hi⟩
/-- A box's first gate put. -/
theorem boxGate {H : Heap} {x : Box} {l : List Lf} {fp : List Nat} (hI : IsBox H l x fp) (hg : 0 < x.gates.length) (g : Bool) :
    ∃ (bid : Nat) (blo : Blk) (q0 q1 q3 q4 : Lf), l = x.enc q0 q1 (.sl (some (bid, 0)) x.gates.length) q3 q4 ∧ bid ∈ fp ∧ blkAt H bid = some blo ∧ blo.elem = 4 ∧ blo.md = .wr ∧ blo.rows[0]? = some [.b x.gates[0]] ∧ IsBox (H.set bid (some ⟨4, .wr, blo.rows.set 0 [.b g]⟩)) l (setGate x g) fp := by
  obtain ⟨q0, q1, q2, q3, q4, f0, f1, f2, f3, f4, rfl, i0, i1, ⟨a2, rfl, i2⟩, i3, i4, rfl, hnd⟩ := hI
  obtain ⟨bid, blo, rfl, rfl, hbb, hbe, hbm, hpre⟩ := i2.blk (by intro h; simp at h; rw [h] at hg; simp at hg)
  have hset := i2.set (row := encB g) hbb (i := 0) (by simpa using hg)
  rw [hbe, hbm] at hset
  obtain ⟨tl, htl⟩ := hpre
  have n0 := List.nodup_append.1 hnd
  have n1 := List.nodup_append.1 n0.2.1
  have n2 := List.nodup_append.1 n1.2.1
  have ks := Keep.set (id := bid) H (some ⟨4, .wr, blo.rows.set 0 [.b g]⟩)
  have m0 : ∀ i ∈ f0, i ∉ [bid] := fun i hi h => n0.2.2 i hi i (by simp at h; simp [h]) rfl
  have m1 : ∀ i ∈ f1, i ∉ [bid] := fun i hi h => n1.2.2 i hi i (by simp at h; simp [h]) rfl
  have m3 : ∀ i ∈ f3, i ∉ [bid] := fun i hi h => n2.2.2 i h i (by simp [hi]) rfl
  have m4 : ∀ i ∈ f4, i ∉ [bid] := fun i hi h => n2.2.2 i h i (by simp [hi]) rfl
  refine ⟨bid, blo, q0, q1, q3, q4, rfl, by simp, hbb, hbe, hbm, ?_, ?_⟩
  · rw [← htl, List.getElem?_append_left (by simpa using hg), List.getElem?_map, List.getElem?_eq_getElem hg]; rfl
  · refine ⟨q0, q1, _, q3, q4, f0, f1, [bid], f3, f4, rfl, i0.keep okMinder ks m0, i1.keep ks m1, ⟨some (bid, 0), by simp [setGate], ?_⟩, i3.keep ks m3, i4.keep ks m4, rfl, hnd⟩
    have e : (setGate x g).gates.map encB = (x.gates.map encB).set 0 (encB g) := by simp [setGate, List.map_set]
    rw [e]
    exact hset

theorem setTwo_sz {x : Box} (hx : x.ok = true) {s : Nat} {m : Minder} (hm : m.sz ≤ 100) : (setTwo x s m).sz ≤ 2000 := by
  obtain ⟨hS, -, -, hl⟩ := Box.smallOf hx
  have h2 := hS.two
  have h3 := hS.net; have h4 := hS.gates; have h5 := hS.line; have h6 := hS.said
  have hmm : ∀ y ∈ x.two.set s m, y.sz ≤ 100 := fun y hy => by
    rcases List.mem_or_eq_of_mem_set hy with h | rfl
    · have := hl y h; unfold Minder.sz; omega
    · exact hm
  obtain ⟨a, b, hab⟩ : ∃ a b, x.two.set s m = [a, b] := by
    have : (x.two.set s m).length = 2 := by simpa using h2
    match h : x.two.set s m, this with
    | [a, b], _ => exact ⟨a, b, rfl⟩
  rw [hab] at hmm
  have ha := hmm a (by simp)
  have hb := hmm b (by simp)
  simp [setTwo, Box.sz, hab, MinderS.sz] at *
  omega
theorem l15Draw {H : Heap} {c n : Nat} (hc : Cur H c n) : Runs env 46 [.ptr c 0 0] H fun v H' => (∃ (l : List Lf) (x : Box) (fp : List Nat), v = .agg l ∧ IsBox H' l x fp ∧ x.sz ≤ 2000 ∧ ∀ i ∈ fp, H.length ≤ i) ∧ CurTo H H' c n := by
  have hcl := hc.lt
  refine Runs.walk ok46 Tryz.func46 rfl (by simp [Tryz.f46]) fun Q hQ => ?_
  simp only [Tryz.f46, strip, stripL, stripI, stripG, chkT, tagsB, tagsL, tagD, addT, tagA, lookN, tagOp, elmT, ty22, ty26, ty27, ty28, ty29, ty30, ty41, ty53, ty56, Nat.reduceEqDiff, if_false, reduceIte, Option.getD_some, Option.getD_none, dstAt, dstOk, Nat.reduceLT, decide_true, if_true]
  have fin : ∀ (HF Y : Heap) (tm : Ab.T) (l : List Lf) (x : Box) (fp : List Nat), HF = Y.set H.length (some ⟨32, .wr, [l]⟩) → tm 2 = .ptr H.length 0 0 → IsBox Y l x fp → x.sz ≤ 2000 → (∀ i ∈ fp, H.length < i) → H.length < Y.length → CurTo H Y c n → Q .ret tm HF := by
    intro HF Y tm l x fp hHF t2 ho hs hf hYl hto
    have hb : blkAt HF H.length = some ⟨32, .wr, [l]⟩ := by rw [hHF]; exact blkAt_set hYl
    have oF : IsBox HF l x fp := by rw [hHF]; exact ho.keep (Keep.set _ _) (fun i hi h => by have := hf i hi; simp at h; omega)
    have htoF : CurTo H HF c n := by rw [hHF]; exact hto.set (by omega) (by omega) _
    refine hQ _ _ _ (by simp) ?_
    have hL := oF.len
    have hT : l.take l.length = l := List.take_length
    rw [hL] at hT
    simp [Tryz.f46, t2, hb, hL, hT]
    refine ⟨?_, htoF.leave hc _⟩
    rcases leave_opt H HF [W.agg l] with e | ⟨e, hr⟩ <;> rw [e]
    · exact ⟨x, fp, oF, hs, fun i hi => by have := hf i hi; omega⟩
    · exact ⟨x, [], oF.free (by simpa using hr) H, hs, by simp⟩
  obtain ⟨X, hX⟩ : ∃ X : Heap, X = H ++ [some ⟨32, .wr, [[.i .i64 0, .i .i64 0, .i .i64 0, .i .i64 0, .i .i64 0, .sl none 0, .sl none 0, .sl none 0, .sl none 0, .sl none 0]]⟩] := ⟨_, rfl⟩
  have bzX : blkAt X H.length = some ⟨32, .wr, [[.i .i64 0, .i .i64 0, .i .i64 0, .i .i64 0, .i .i64 0, .sl none 0, .sl none 0, .sl none 0, .sl none 0, .sl none 0]]⟩ := by rw [hX]; simp
  have hlX : X.length = H.length + 1 := by rw [hX]; simp
  have hcX : CurTo H X c n := by rw [hX]; exact (CurTo.refl hc).app _
  simp
  rw [← hX]
  clear hX
  refine stpL_runs (l15DrawRight hcX.2) ?_
  rintro _ H1 ⟨⟨l, x, fp, rfl, ox, hx, hfp⟩, hto1⟩
  have hL := ox.len
  have hT : l.take l.length = l := List.take_length
  rw [hL] at hT
  simp [hL, hT]
  obtain ⟨Y, hY⟩ : ∃ Y : Heap, Y = H1 ++ [some ⟨32, .wr, [l]⟩] := ⟨_, rfl⟩
  have b3Y : blkAt Y H1.length = some ⟨32, .wr, [l]⟩ := by rw [hY]; simp
  have hlt1 := ox.lt
  have oxY : IsBox Y l x fp := by rw [hY]; exact ox.app _
  have hcY : CurTo H Y c n := by rw [hY]; exact (hcX.next hto1).app _
  have bzY := blkAt_app (hto1.1.blk bzX (by simp; omega)) [some ⟨32, .wr, [l]⟩]
  rw [← hY] at bzY
  have hl1 := hto1.len
  have hlY : Y.length = H1.length + 1 := by rw [hY]; simp
  rw [← hY]
  obtain ⟨K, hK⟩ : ∃ K, K = H1.length := ⟨_, rfl⟩
  rw [← hK] at b3Y hlt1 hlY ⊢
  clear hY ox
  refine stpL_runs (l1Below hcY.2 16) ?_
  rintro _ H2 ⟨⟨k, rfl, -⟩, hto2⟩
  have hcc2 := hcY.next hto2
  have b3 := hto2.1.blk b3Y (by simp; omega)
  have bz2 := hto2.1.blk bzY (by simp; omega)
  have no : ∀ i ∈ fp, i ∉ [c] := fun i hi h => by have := hfp i hi; simp at h; omega
  have ox2 := oxY.keep hto2.1 no
  have hKfp : K ∉ fp := fun h => by have := hlt1 _ h; omega
  have hcfp : c ∉ fp := fun h => no c h (by simp)
  have d3 := blkAt_len b3
  have dz2 := blkAt_len bz2
  have hS := Box.smallOf hx
  have hsz := hS.1.sz
  have hlo : ∀ i ∈ fp, H.length < i := fun i hi => by have := hfp i hi; omega
  have hne3 : ∀ (Y : Heap) (y : Option Blk), blkAt (List.set Y K y) H.length = blkAt Y H.length := fun Y y => blkAt_set_ne (by omega)
  have hne4 : ∀ (Y : Heap) (y : Blk), K < Y.length → blkAt (List.set Y K (some y)) K = some y := fun Y y h => blkAt_set h
  have ox20 := ox2
  obtain ⟨q0, q1, q2, q3, q4, f0, f1, f2, f3, f4, hle, i0, ⟨a1, rfl, o1⟩, i2, ⟨a3, rfl, o3⟩, i4, hfe, hnd⟩ := ox2
  have no' := no
  rw [hfe] at no'
  have cp : ∀ Y, Keep [c] H2 Y → IsMinderS Y q0 x.two f0 ∧ Own Y 91 a1 (x.net.map Wire.enc) f1 ∧ IsBoolS Y q2 x.gates f2 ∧ Own Y 64 a3 (x.line.map In.enc) f3 ∧ IsOutS Y q4 x.said f4 := fun Y hY =>
    ⟨i0.keep okMinder hY (fun i hi => no' i (by simp [hi])), o1.keep hY (fun i hi => no' i (by simp [hi])), i2.keep hY (fun i hi => no' i (by simp [hi])), o3.keep hY (fun i hi => no' i (by simp [hi])), i4.keep hY (fun i hi => no' i (by simp [hi]))⟩
  have hg1 : 0 < x.gates.length := by have := Box.ok_ids hx; omega
  have hloF : ∀ (fp' : List Nat) (m : Nat), H.length < m → (∀ i ∈ fp', i ∈ fp ∨ m ≤ i) → ∀ i ∈ fp', H.length < i := fun fp' m hm h i hi => by
    rcases h i hi with h | h
    · exact hlo i h
    · omega
  have b3l := b3
  rw [hle] at b3l
  simp only [Box.enc] at b3l
  by_cases c0 : k = 0
  · simp [c0, b3l, d3]
    refine stpL_cur (l1Below hto2.2 2) hto2.2 (fun v H' h => h.2) ?_
    rintro _ H3 ⟨⟨k2, rfl, hk0, hk1, -⟩, hto3⟩
    have hk2 := hk1 (by omega)
    obtain ⟨k2, rfl⟩ : ∃ k' : Nat, k2 = (k' : Int) := ⟨k2.toNat, by omega⟩
    have hs : k2 < x.two.length := by rw [hS.1.two]; omega
    have ox3 := (oxY.keep hto2.1 no).keep hto3.1 no
    have b33 := hto3.1.blk b3 (by simp; omega)
    simp
    refine stpL_cur (l12Draw hto3.2) hto3.2 (fun v H' h => h.2) ?_
    rintro _ H4 ⟨⟨l5, m5, f5, rfl, o5, hs5, -, hf5⟩, hto4⟩
    obtain ⟨bid, blo, r1, r2, r3, r4, row, fp', hle2, hbi, hbne, hbb, hbe, hbm, hrow, hrl, z1, z2, z3⟩ := boxPut b33 ox3 hKfp hto4.1 hcfp (by omega) hs o5 hf5
    have hq0 : q0 = .sl (some (bid, 0)) x.two.length := by
      rw [hle2] at hle
      simp only [Box.enc, List.cons.injEq, and_true, true_and] at hle
      exact hle.1.symm
    subst hq0
    have nbid := blkAt_len hbb
    have hDr : row.drop 7 = [] := by rw [← hrl]; exact List.drop_length
    have hLm := o5.len
    have hTm : l5.take l5.length = l5 := List.take_length
    rw [hLm] at hTm
    have hsI : (k2 : Int) < x.two.length := by omega
    have hcc4 := (hcc2.next hto3).next hto4
    have bz4 := hto4.1.blk (hto3.1.blk bz2 (by simp; omega)) (by simp; omega)
    have hbidlo := hlo _ hbi
    have hzb : blkAt (H4.set bid (some ⟨52, .wr, blo.rows.set k2 l5⟩)) H.length = _ := (blkAt_set_ne (by omega)).trans bz4
    have hzl := blkAt_len bz4
    simp [indexAddrV, elemIs, hbb, nbid, hbe, hbm, hs, hsI, hrow, hrl, hDr, hLm, hTm, z1, hL, hT, hzb, hzl]
    refine fin _ _ _ _ _ fp' rfl ?_ z2 (setTwo_sz hx hs5) (hloF _ H3.length (by have := hto3.len; have := hto2.len; omega) z3) (by simpa using hzl) (hcc4.set (by omega) (by omega) _)
    simp
  by_cases c1 : k = 1
  · simp [c1]
    refine stpL_runs (l13DrawReg hto2.2) ?_
    rintro _ H3 ⟨⟨r, rfl⟩, hto3⟩
    have ox3 := ox20.keep hto3.1 no
    rw [hle] at ox3
    have b33 := hto3.1.blk b3l (by simp; omega)
    have bz3 := hto3.1.blk bz2 (by simp; omega)
    have d33 := blkAt_len b33
    have dz3 := blkAt_len bz3
    have hcc3 := hcc2.next hto3
    obtain ⟨l', fp', z1, z2, z3, z4, z5⟩ := boxReg d33 ox3 hKfp (Keep.refl _ _) r
    have e := (blkAt_set d33).symm.trans z1
    simp at e
    subst e
    simp [b33, d33, bz3, dz3, hne3, hne4, Reg.enc]
    refine fin _ _ _ _ _ fp' rfl ?_ z2 (by have : (setReg x r).sz = x.sz := rfl; omega) (hloF _ H3.length (by omega) z5) (by simpa using dz3) (hcc3.set (by omega) (by omega) _)
    simp
  by_cases c5 : k = 5
  · simp [c5]
    refine stpL_runs (l1Below hto2.2 6) ?_
    rintro _ H3 ⟨⟨r, rfl, -⟩, hto3⟩
    have ox3 := ox20.keep hto3.1 no
    rw [hle] at ox3
    have b33 := hto3.1.blk b3l (by simp; omega)
    have bz3 := hto3.1.blk bz2 (by simp; omega)
    have d33 := blkAt_len b33
    have dz3 := blkAt_len bz3
    have hcc3 := hcc2.next hto3
    obtain ⟨l', fp', z1, z2, z3, z4, z5⟩ := boxPorts d33 ox3 hKfp (Keep.refl _ _) r
    have e := (blkAt_set d33).symm.trans z1
    simp at e
    subst e
    simp [b33, d33, bz3, dz3, hne3, hne4]
    refine fin _ _ _ _ _ fp' rfl ?_ z2 (by have : (setPorts x r).sz = x.sz := rfl; omega) (hloF _ H3.length (by omega) z5) (by simpa using dz3) (hcc3.set (by omega) (by omega) _)
    simp
  by_cases c4 : k = 4
  · obtain ⟨bid, blo, r0, r1, r3, r4, hle2, hbi, hbb, hbe, hbm, hrow, z2⟩ := boxGate ox20 hg1 (!x.gates[0])
    have hq2 : q2 = .sl (some (bid, 0)) x.gates.length := by
      rw [hle2] at hle
      simp only [Box.enc, List.cons.injEq, and_true, true_and] at hle
      exact hle.2.2.1.symm
    subst hq2
    have nbid := blkAt_len hbb
    have hbK : bid ≠ K := fun h => hKfp (h ▸ hbi)
    have hbH : bid ≠ H.length := fun h => by have := hlo _ hbi; omega
    have hbh2 : H.length < bid := hlo _ hbi
    have hgI : (0 : Int) < x.gates.length := by omega
    have hzb : ∀ y, blkAt (H2.set bid y) H.length = _ := fun y => (blkAt_set_ne hbH).trans bz2
    have hzk : ∀ y, blkAt (H2.set bid y) K = _ := fun y => (blkAt_set_ne hbK).trans b3l
    simp [c4, b3l, d3, indexAddrV, elemIs, hbb, nbid, hbe, hbm, hgI, hg1, hrow, hzb, hzk, dz2]
    have hgz : (setGate x (!x.gates[0])).sz = x.sz := by simp [setGate, Box.sz]
    refine fin _ _ _ _ _ fp ?_ ?_ z2 (by omega) hlo (by simpa using dz2) (hcc2.set (by omega) (by omega) _)
    · rw [hle]; rfl
    · simp
  by_cases c2 : k = 2
  · simp [c2, b3l, d3]
    refine stpL_cur (l1Below hto2.2 3) hto2.2 (fun v H' h => h.2) ?_
    rintro _ H3 ⟨⟨k2, rfl, -⟩, hto3⟩
    simp
    refine stpL_cur (l1Below hto3.2 3) hto3.2 (fun v H' h => h.2) ?_
    rintro _ H4 ⟨⟨k3, rfl, -⟩, hto4⟩
    simp
    refine stpL_cur (l8DrawBent hto4.2) hto4.2 (fun v H' h => h.2) ?_
    rintro _ H5 ⟨⟨y, rfl⟩, hto5⟩
    have hto25 := (hto3.next hto4).next hto5
    have kY5 := hto25.1
    have hto5c := hto25.1
    have hcc5 := hcc2.next hto25
    have hszA : (setNet x (x.net ++ [⟨k2, false, 1, k3, y⟩])).sz = x.sz + 1 := by simp [setNet, setLine, Box.sz]; omega
    obtain ⟨j0, j1, j2, j3, j4⟩ := cp H5 kY5
    have b35 := hto5c.blk b3l (by simp; omega)
    have bz5 := hto5c.blk bz2 (by simp; omega)
    have d35 := blkAt_len b35
    have hl5 := kY5.1
    simp [Wire.enc, In.enc]
    refine stpL_append (e := 91) (rows := x.net.map Wire.enc) (ys := [(Wire.mk k2 false 1 k3 y).enc]) (j1.app _) (Sl.of (by simp [Wire.enc, In.enc])) rfl rfl rfl (by simp) (by simp; omega) (by simp) rfl fun aa C fc hoC hkC hfC => ?_
    have kC : Keep f1 H5 C := hkC.base
    have hC := kC.1
    have hfl : ∀ i ∈ f1, H.length < i ∧ i ≠ K := fun i hi => ⟨hlo i (by rw [hfe]; simp [hi]), fun h => hKfp (by rw [hfe, ← h]; simp [hi])⟩
    have hfc : ∀ i ∈ fc, i ∈ f1 ∨ H5.length ≤ i := fun i hi => by
      rcases hfC i hi with h | h
      · exact .inl h
      · simp at h; exact .inr (by omega)
    have bC := kC.blk b35 (fun h => (hfl _ h).2 rfl)
    have bzC := kC.blk bz5 (fun h => by have := (hfl _ h).1; omega)
    have dC := blkAt_len bC
    have dzC := blkAt_len bzC
    have hcC := hcc5.own kC (fun i hi => by have := (hfl i hi).1; omega) hcl
    have hKf := hKfp
    rw [hfe] at hKf
    obtain ⟨l', fp', z1, z2, z3, z4, z5⟩ := boxNet (x := x) (q1' := .sl aa (x.net.length + 1)) (ws := x.net ++ [⟨k2, false, 1, k3, y⟩]) d35 hKf j0 j2 ⟨a3, rfl, j3⟩ j4 (hfe ▸ hnd) kC ⟨aa, by simp, by simpa using hoC⟩ hfc
    have e := (blkAt_set dC).symm.trans z1
    simp at e
    subst e
    simp [bC, dC, bzC, dzC, hne3, hne4]
    refine fin _ _ _ _ _ fp' rfl ?_ z2 (by rw [hszA]; omega) (hloF _ H5.length (by omega) (by rw [hfe]; exact z5)) (by simpa using dzC) (hcC.set (by omega) (by omega) _)
    simp
  by_cases c3 : k = 3
  · simp [c3, b3l, d3]
    refine stpL_cur (l8DrawBent hto2.2) hto2.2 (fun v H' h => h.2) ?_
    rintro _ H5 ⟨⟨y, rfl⟩, hto5⟩
    have kY5 := hto5.1
    have hto5c := hto5.1
    have hcc5 := hcc2.next hto5
    have hszA : (setLine x (x.line ++ [y])).sz = x.sz + 1 := by simp [setNet, setLine, Box.sz]; omega
    obtain ⟨j0, j1, j2, j3, j4⟩ := cp H5 kY5
    have b35 := hto5c.blk b3l (by simp; omega)
    have bz5 := hto5c.blk bz2 (by simp; omega)
    have d35 := blkAt_len b35
    have hl5 := kY5.1
    simp [In.enc]
    refine stpL_append (e := 64) (rows := x.line.map In.enc) (ys := [y.enc]) (j3.app _) (Sl.of (by simp [In.enc])) rfl rfl rfl (by simp) (by simp; omega) (by simp) rfl fun aa C fc hoC hkC hfC => ?_
    have kC : Keep f3 H5 C := hkC.base
    have hC := kC.1
    have hfl : ∀ i ∈ f3, H.length < i ∧ i ≠ K := fun i hi => ⟨hlo i (by rw [hfe]; simp [hi]), fun h => hKfp (by rw [hfe, ← h]; simp [hi])⟩
    have hfc : ∀ i ∈ fc, i ∈ f3 ∨ H5.length ≤ i := fun i hi => by
      rcases hfC i hi with h | h
      · exact .inl h
      · simp at h; exact .inr (by omega)
    have bC := kC.blk b35 (fun h => (hfl _ h).2 rfl)
    have bzC := kC.blk bz5 (fun h => by have := (hfl _ h).1; omega)
    have dC := blkAt_len bC
    have dzC := blkAt_len bzC
    have hcC := hcc5.own kC (fun i hi => by have := (hfl i hi).1; omega) hcl
    have hKf := hKfp
    rw [hfe] at hKf
    obtain ⟨l', fp', z1, z2, z3, z4, z5⟩ := boxLine (x := x) (q3' := .sl aa (x.line.length + 1)) (ls := x.line ++ [y]) d35 hKf j0 ⟨a1, rfl, j1⟩ j2 j4 (hfe ▸ hnd) kC ⟨aa, by simp, by simpa using hoC⟩ hfc
    have e := (blkAt_set dC).symm.trans z1
    simp at e
    subst e
    simp [bC, dC, bzC, dzC, hne3, hne4]
    refine fin _ _ _ _ _ fp' rfl ?_ z2 (by rw [hszA]; omega) (hloF _ H5.length (by omega) (by rw [hfe]; exact z5)) (by simpa using dzC) (hcC.set (by omega) (by omega) _)
    simp
  simp [c0, c1, c2, c3, c4, c5, b3, d3, hL, hT, bz2, dz2]
  refine fin _ _ _ _ _ fp rfl ?_ ox20 (by omega) hlo dz2 hcc2
  simp

theorem drawBoxOk {H : Heap} {a : Option (Nat × Nat)} {bs : List Int} (hs : Sl H 5 a (bs.map encU)) (hn : bs.length ≤ 1048576) : Runs env 23 [.w (.lf (.sl a bs.length))] H fun v H' => (∃ (l : List Lf) (x : Box) (fp : List Nat), v = .agg l ∧ IsBox H' l x fp ∧ x.sz ≤ 2000) ∧ Keep [] H H' := by
  refine Runs.walk ok23 Tryz.func23 rfl (by simp [Tryz.f23]) fun Q hQ => ?_
  simp only [Tryz.f23, strip, stripL, stripI, stripG, chkT, tagsB, tagsL, tagD, addT, tagA, lookN, tagOp, elmT, ty22, ty26, ty27, ty28, ty29, ty30, ty41, ty53, ty56, Nat.reduceEqDiff, if_false, reduceIte, Option.getD_some, Option.getD_none, dstAt, dstOk, Nat.reduceLT, decide_true, if_true]
  obtain ⟨X0, hX0⟩ : ∃ X0 : Heap, X0 = H ++ [some ⟨32, .wr, [[.i .i64 0, .i .i64 0, .i .i64 0, .i .i64 0, .i .i64 0, .sl none 0, .sl none 0, .sl none 0, .sl none 0, .sl none 0]]⟩] := ⟨_, rfl⟩
  have bz0 : blkAt X0 H.length = some ⟨32, .wr, [[.i .i64 0, .i .i64 0, .i .i64 0, .i .i64 0, .i .i64 0, .sl none 0, .sl none 0, .sl none 0, .sl none 0, .sl none 0]]⟩ := by rw [hX0]; simp
  have k0 : Keep [] H X0 := by rw [hX0]; exact Keep.app _ _ _
  have hl0 : X0.length = H.length + 1 := by rw [hX0]; simp
  have hs0 : Sl X0 5 a (bs.map encU) := by rw [hX0]; exact hs.app _
  simp
  rw [← hX0]
  refine stpL_runs (l1New hs0 hn) ?_
  rintro _ X ⟨c, rfl, hc, hcl, hk⟩
  have bz := hk.blk bz0 (by simp)
  simp
  refine stpL_runs (l15Draw hc) ?_
  rintro _ Y ⟨⟨l, m, fp, rfl, om, hms, hfp⟩, hto⟩
  have bz2 := hto.1.blk bz (fun h => by simp at h; omega)
  have hY := blkAt_len bz2
  have hX := blkAt_len bz
  have hL := om.len
  have hT : l.take l.length = l := List.take_length
  rw [hL] at hT
  simp [bz2, hY, hL, hT, -set_lt]
  refine hQ _ _ _ (by simp) ?_
  obtain ⟨HF, hHF⟩ : ∃ HF : Heap, HF = Y.set H.length (some ⟨32, .wr, [l]⟩) := ⟨_, rfl⟩
  rw [← hHF]
  have b2 : blkAt HF H.length = some ⟨32, .wr, [l]⟩ := by rw [hHF]; exact blkAt_set hY
  have kF : Keep [H.length] Y HF := by rw [hHF]; exact Keep.set _ _
  have kA : Keep [] H HF := ((k0.next hk (by simp)).next hto.1 (by simp; omega)).next kF (by simp)
  have oF := om.keep kF (fun i hi h => by have := hfp i hi; simp at h; omega)
  simp [Tryz.f23, b2, hL, hT]
  rcases leave_opt H HF [W.agg l] with e | ⟨e, hr⟩ <;> rw [e]
  · exact ⟨⟨m, ⟨fp, oF⟩, hms⟩, kA⟩
  · exact ⟨⟨m, ⟨[], oF.free (by simpa using hr) H⟩, hms⟩, Keep.refl _ _⟩

theorem drawReleased {H : Heap} {a : Option (Nat × Nat)} {bs : List Int} (hs : Sl H 5 a (bs.map encU)) (hn : bs.length ≤ 1048576) : Runs env 24 [.w (.lf (.sl a bs.length))] H fun v H' => (∃ (l : List Lf) (x : Box) (fp : List Nat), v = .agg l ∧ IsBox H' l x fp ∧ x.sz ≤ 2000) ∧ Keep [] H H' := by
  refine Runs.walk ok24 Tryz.func24 rfl (by simp [Tryz.f24]) fun Q hQ => ?_
  simp only [Tryz.f24, strip, stripL, stripI, stripG, chkT, tagsB, tagsL, tagD, addT, tagA, lookN, tagOp, elmT, ty22, ty26, ty27, ty28, ty29, ty30, ty41, ty53, ty56, Nat.reduceEqDiff, if_false, reduceIte, Option.getD_some, Option.getD_none, dstAt, dstOk, Nat.reduceLT, decide_true, if_true]
  obtain ⟨X0, hX0⟩ : ∃ X0 : Heap, X0 = H ++ [some ⟨32, .wr, [[.i .i64 0, .i .i64 0, .i .i64 0, .i .i64 0, .i .i64 0, .sl none 0, .sl none 0, .sl none 0, .sl none 0, .sl none 0]]⟩] := ⟨_, rfl⟩
  have bz0 : blkAt X0 H.length = some ⟨32, .wr, [[.i .i64 0, .i .i64 0, .i .i64 0, .i .i64 0, .i .i64 0, .sl none 0, .sl none 0, .sl none 0, .sl none 0, .sl none 0]]⟩ := by rw [hX0]; simp
  have k0 : Keep [] H X0 := by rw [hX0]; exact Keep.app _ _ _
  have hl0 : X0.length = H.length + 1 := by rw [hX0]; simp
  have hs0 : Sl X0 5 a (bs.map encU) := by rw [hX0]; exact hs.app _
  simp
  rw [← hX0]
  refine stpL_runs (l1New hs0 hn) ?_
  rintro _ X ⟨c, rfl, hc, hcl, hk⟩
  have bz := hk.blk bz0 (by simp)
  simp
  refine stpL_runs (l15Draw hc) ?_
  rintro _ Y ⟨⟨l, m, fp, rfl, om, hms, hfp⟩, hto⟩
  have bz2 := hto.1.blk bz (fun h => by simp at h; omega)
  have hY := blkAt_len bz2
  have hX := blkAt_len bz
  have hL := om.len
  have hT : l.take l.length = l := List.take_length
  rw [hL] at hT
  simp [bz2, hY, hL, hT, -set_lt]
  refine hQ _ _ _ (by simp) ?_
  obtain ⟨HF, hHF⟩ : ∃ HF : Heap, HF = Y.set H.length (some ⟨32, .wr, [l]⟩) := ⟨_, rfl⟩
  rw [← hHF]
  have b2 : blkAt HF H.length = some ⟨32, .wr, [l]⟩ := by rw [hHF]; exact blkAt_set hY
  have kF : Keep [H.length] Y HF := by rw [hHF]; exact Keep.set _ _
  have kA : Keep [] H HF := ((k0.next hk (by simp)).next hto.1 (by simp; omega)).next kF (by simp)
  have oF := om.keep kF (fun i hi h => by have := hfp i hi; simp at h; omega)
  simp [Tryz.f24, b2, hL, hT]
  rcases leave_opt H HF [W.agg l] with e | ⟨e, hr⟩ <;> rw [e]
  · exact ⟨⟨m, ⟨fp, oF⟩, hms⟩, kA⟩
  · exact ⟨⟨m, ⟨[], oF.free (by simpa using hr) H⟩, hms⟩, Keep.refl _ _⟩

theorem drawBridgeNew {H : Heap} {a : Option (Nat × Nat)} {bs : List Int} (hs : Sl H 5 a (bs.map encU)) (hn : bs.length ≤ 1048576) : Runs env 26 [.w (.lf (.sl a bs.length))] H fun v H' => (∃ x y : Int, v = .tup [.lf (.i .i64 x), .lf (.i .i64 y)] ∧ I64 x ∧ I64 y) ∧ Keep [] H H' := by
  refine Runs.walk ok26 Tryz.func26 rfl (by simp [Tryz.f26]) fun Q hQ => ?_
  simp only [Tryz.f26, strip, stripL, stripI, stripG, chkT, tagsB, tagsL, tagD, addT, tagA, lookN, tagOp, elmT, ty22, ty26, ty27, ty28, ty29, ty30, ty41, ty53, ty56, Nat.reduceEqDiff, if_false, reduceIte, Option.getD_some, Option.getD_none, dstAt, dstOk, Nat.reduceLT, decide_true, if_true]
  simp
  refine stpL_runs (l1New hs hn) ?_
  rintro _ X ⟨c, rfl, hc, hcl, hk⟩
  simp
  refine stpL_runs (l1Below hc 12) ?_
  rintro _ Y ⟨⟨u, rfl, hu0, hu1, -⟩, hto⟩
  have hu := hu1 (by omega)
  have w1 : IntKind.i64.wrap (u - 1) = u - 1 := wrap64 (by omega) (by omega)
  simp [w1]
  have hcL := hto.2.app [some ⟨3, .wr, [encI 1, encI 3, encI 4, encI 5, encI 0, encI (-1), encI 9223372036854775807]⟩]
  simp only [encI] at hcL
  refine stpL_runs (l1PickInt (xs := [1, 3, 4, 5, 0, (-1), 9223372036854775807]) hcL (Sl.of (by simp [encI])) (by simp) (by simp)) ?_
  rintro _ Z ⟨⟨y, rfl, hy⟩, hto3⟩
  have kZ : Keep [] H Z := (hk.next hto.1 (by simp; omega)).next hto3.base.1 (by simp; omega)
  have hy64 : I64 y := by
    simp at hy
    unfold I64
    omega
  simp
  refine hQ _ _ _ (by simp) ?_
  simp [Tryz.f26]
  refine ⟨⟨u - 1, y, ⟨rfl, rfl⟩, by unfold I64; omega, hy64⟩, ?_⟩
  rcases leave_opt H Z [W.lf (.i .i64 (u - 1)), W.lf (.i .i64 y)] with e | ⟨e, -⟩ <;> rw [e]
  · exact kZ
  · exact Keep.refl _ _

theorem drawBoxNew {H : Heap} {a : Option (Nat × Nat)} {bs : List Int} (hs : Sl H 5 a (bs.map encU)) (hn : bs.length ≤ 1048576) : Runs env 20 [.w (.lf (.sl a bs.length))] H fun v H' => (∃ x y : Int, v = .tup [.lf (.i .i64 x), .lf (.i .i64 y)] ∧ I64 x ∧ I64 y) ∧ Keep [] H H' := by
  refine Runs.walk ok20 Tryz.func20 rfl (by simp [Tryz.f20]) fun Q hQ => ?_
  simp only [Tryz.f20, strip, stripL, stripI, stripG, chkT, tagsB, tagsL, tagD, addT, tagA, lookN, tagOp, elmT, ty22, ty26, ty27, ty28, ty29, ty30, ty41, ty53, ty56, Nat.reduceEqDiff, if_false, reduceIte, Option.getD_some, Option.getD_none, dstAt, dstOk, Nat.reduceLT, decide_true, if_true]
  simp
  refine stpL_runs (drawBridgeNew hs hn) ?_
  rintro _ X ⟨⟨x, y, rfl, hx, hy⟩, hk⟩
  simp
  refine hQ _ _ _ (by simp) ?_
  simp [Tryz.f20]
  refine ⟨⟨x, y, ⟨rfl, rfl⟩, hx, hy⟩, ?_⟩
  rcases leave_opt H X [W.lf (.i .i64 x), W.lf (.i .i64 y)] with e | ⟨e, -⟩ <;> rw [e]
  · exact hk
  · exact Keep.refl _ _

theorem sameBridgeL {H : Heap} {l r : List Lf} {x y : Bridge} (h : RdBridge H l x) (h2 : RdBridge H r y) (hn : x.sz ≤ 1048576) : run env 35 [.agg l, .agg r] H = some (.bool (decide (x = y)), H) := by
  obtain ⟨a, rfl, ha⟩ := h
  obtain ⟨b, rfl, hb⟩ := h2
  have hn : x.ports.length ≤ 1048576 := hn
  refine run_walk ok35 Tryz.func35 rfl (by simp [Tryz.f35]) fun Q hQ => ?_
  simp only [Tryz.f35, strip, stripL, stripI, stripG, chkT, tagsB, tagsL, tagD, addT, tagA, lookN, tagOp, elmT, ty22, ty26, ty27, ty28, ty29, ty30, ty41, ty53, ty56, Nat.reduceEqDiff, if_false, reduceIte, Option.getD_some, Option.getD_none, dstAt, dstOk, Nat.reduceLT, decide_true, if_true]
  simp [Bridge.enc, builtinV, pureB, lenV]
  have bad : x ≠ y → ∀ tm H', (∃ G, H' = H ++ G) → tm 4 = .bool false → Q .ret tm H' := by
    rintro hx tm _ ⟨G, rfl⟩ h4
    refine hQ _ _ _ (by simp) ?_
    simp [Tryz.f35, h4, hx]
  refine gdL_f (fun hd => ?_) (fun hd => ?_)
  · simp [hd]
    refine bad (fun hx => by subst hx; simp at hd) _ _ ⟨_, rfl⟩ (by simp)
  simp [hd, builtinV, pureB, lenV]
  refine selS_intro (fun hl => ?_) (fun hl => ?_)
  · simp
    refine bad (fun hx => by subst hx; simp at hl) _ _ ⟨_, rfl⟩ (by simp)
  simp at hl hd
  simp
  refine wpS_loop (fun j tm H' => ∃ i, i + j = x.ports.length ∧ tm 2 = .ptr H.length 0 0 ∧ tm 3 = .ptr (H.length + 1) 0 0 ∧ tm 5 = .int i ∧ H' = H ++ [some ⟨43, .wr, [x.enc a]⟩, some ⟨43, .wr, [y.enc b]⟩] ∧ x.ports.take i = y.ports.take i) x.ports.length (by rw [env_K]; omega) ⟨0, by simp, by simp, by simp, by simp, by simp [Bridge.enc], by simp⟩ ?_
  rintro j tm H' hj ⟨i, hij, t2, t3, t5, rfl, heq⟩ Q' hn' he' hr'
  simp [t2, t3, t5, Bridge.enc, builtinV, pureB, lenV]
  refine selS_intro (fun hc => ?_) (fun hc => ?_)
  · simp at hc
    have hc2 : i < y.ports.length := by omega
    obtain ⟨id, r, bl, rfl, hbl, hbe, hrow⟩ := ha i _ (by simp [hc]; rfl)
    obtain ⟨id2, r2, bl2, rfl, hbl2, hbe2, hrow2⟩ := hb i _ (by simp [hc2]; rfl)
    have hid := blkAt_len hbl
    have hid2 := blkAt_len hbl2
    have g4 : IntKind.i64.wrap ((i : Int) + 1) = (i : Int) + 1 := wrap64 (by omega) (by omega)
    simp [t2, t3, t5, indexAddrV, elemIs, hid, hid2, hbl, hbe, hbl2, hbe2, hc, hc2, hrow, hrow2, Port.enc]
    refine selS_intro (fun hd2 => ?_) (fun hd2 => ?_)
    · simp
      refine hr' _ _ ?_
      simp
      refine bad (fun hx => by subst hx; simp at hd2) _ _ ⟨_, rfl⟩ (by simp)
    · have hxy : x.ports[i] = y.ports[i] := by
        refine Port.enc_inj ?_
        simpa [Port.enc] using hd2
      simp [t2, t3, t5, g4]
      exact hn' (j - 1) _ _ (by omega) ⟨i + 1, by omega, by simp [t2], by simp [t3], by simp, by simp [Bridge.enc], by rw [List.take_add_one, List.take_add_one, heq]; simp [hc, hc2, hxy]⟩
  · simp at hc
    simp [t2, t3, t5]
    refine he' _ _ _ ?_
    simp
    refine hQ _ _ _ (by simp) ?_
    have hp : x.ports = y.ports := by
      rw [List.take_of_length_le (by omega), List.take_of_length_le (by omega)] at heq
      exact heq
    have : x = y := by
      obtain ⟨x1, x2⟩ := x
      obtain ⟨y1, y2⟩ := y
      simp_all
    simp [Tryz.f35, this]

theorem drawAccept {H : Heap} {a : Option (Nat × Nat)} {bs : List Int} (hs : Sl H 5 a (bs.map encU)) (hn : bs.length ≤ 1048576) : Runs env 25 [.w (.lf (.sl a bs.length))] H fun v H' => (∃ (l : List Lf) (x : Box) (s : Int) (q : Lf) (os : List Out), v = .tup [.agg l, .lf (.i .i64 s), .lf q] ∧ RdBox H' l x ∧ RdOutS H' q os ∧ x.sz ≤ 2000 ∧ I64 s ∧ os.length ≤ 1000) ∧ Keep [] H H' := by
  refine Runs.walk ok25 Tryz.func25 rfl (by simp [Tryz.f25]) fun Q hQ => ?_
  simp only [Tryz.f25, strip, stripL, stripI, stripG, chkT, tagsB, tagsL, tagD, addT, tagA, lookN, tagOp, elmT, ty22, ty26, ty27, ty28, ty29, ty30, ty41, ty53, ty56, Nat.reduceEqDiff, if_false, reduceIte, Option.getD_some, Option.getD_none, dstAt, dstOk, Nat.reduceLT, decide_true, if_true]
  obtain ⟨X0, hX0⟩ : ∃ X0 : Heap, X0 = H ++ [some ⟨32, .wr, [[.i .i64 0, .i .i64 0, .i .i64 0, .i .i64 0, .i .i64 0, .sl none 0, .sl none 0, .sl none 0, .sl none 0, .sl none 0]]⟩] := ⟨_, rfl⟩
  have bz0 : blkAt X0 H.length = some ⟨32, .wr, [[.i .i64 0, .i .i64 0, .i .i64 0, .i .i64 0, .i .i64 0, .sl none 0, .sl none 0, .sl none 0, .sl none 0, .sl none 0]]⟩ := by rw [hX0]; simp
  have k0 : Keep [] H X0 := by rw [hX0]; exact Keep.app _ _ _
  have hl0 : X0.length = H.length + 1 := by rw [hX0]; simp
  have hs0 : Sl X0 5 a (bs.map encU) := by rw [hX0]; exact hs.app _
  simp
  rw [← hX0]
  refine stpL_runs (l1New hs0 hn) ?_
  rintro _ X ⟨c, rfl, hc, hcl, hk⟩
  have bz := hk.blk bz0 (by simp)
  simp
  refine stpL_runs (l15Draw hc) ?_
  rintro _ Y ⟨⟨l, x, fp, rfl, ox, hxs, hfp⟩, hto⟩
  have bz2 := hto.1.blk bz (fun h => by simp at h; omega)
  have hL := ox.len
  have hT : l.take l.length = l := List.take_length
  rw [hL] at hT
  have hcl2 := hc.lt
  have hkl := hk.1
  have hYl := hto.len
  simp [hL, hT]
  obtain ⟨Y1, hY1⟩ : ∃ Y1 : Heap, Y1 = Y ++ [some ⟨32, .wr, [l]⟩] := ⟨_, rfl⟩
  have b5 : blkAt Y1 Y.length = some ⟨32, .wr, [l]⟩ := by rw [hY1]; simp
  have hcY1 : CurTo X Y1 c bs.length := by rw [hY1]; exact hto.app _
  have bzY := blkAt_app bz2 [some ⟨32, .wr, [l]⟩]
  have oxY := ox.app [some ⟨32, .wr, [l]⟩]
  rw [← hY1] at bzY oxY ⊢
  obtain ⟨K, hK⟩ : ∃ K, K = Y.length := ⟨_, rfl⟩
  rw [← hK] at b5 ⊢
  have hXK : X.length ≤ K := by omega
  clear hY1
  have hXl := blkAt_len bz
  have hne : ∀ (m : Nat), X.length ≤ m → m ∉ [c] := fun m hm h => by simp at h; omega
  have hnz : H.length ∉ [c] := fun h => by simp at h; omega
  refine stpL_runs (l1Below hcY1.2 4) ?_
  rintro _ B ⟨⟨u, rfl, hu0, hu1, -⟩, htoB⟩
  have hu := hu1 (by omega)
  have w1 : IntKind.i64.wrap (u - 1) = u - 1 := wrap64 (by omega) (by omega)
  simp [w1]
  refine stpL_runs (l8DrawRight htoB.2) ?_
  rintro _ C ⟨⟨lb, b, fb, rfl, ob, hb1, hb4, hfb⟩, htoC⟩
  have hcC := (hcY1.next htoB).next htoC
  have hBC := htoB.next htoC
  have b5C := hBC.1.blk b5 (hne _ hXK)
  have bzC := hBC.1.blk bzY hnz
  have oxC := oxY.keep hBC.1 (fun k hk => hne k (hfp k hk))
  have hre := specReact ob.rd (by unfold Bridge.sz; omega) ⟨2, 0, ⟨0, 0, 0, 0⟩, 0, false⟩
  simp only [In.enc] at hre
  simp
  refine stpL_runs hre ?_
  rintro _ _ ⟨l6, f6, q6, g6, rfl, o6, oo, ⟨⟨G6, rfl⟩, hf6⟩, -⟩
  have hol : (reactB b ⟨2, 0, ⟨0, 0, 0, 0⟩, 0, false⟩).2.length ≤ 1000 := by have := reactB_outs b ⟨2, 0, ⟨0, 0, 0, 0⟩, 0, false⟩; omega
  obtain ⟨os, hos⟩ : ∃ os, os = (reactB b ⟨2, 0, ⟨0, 0, 0, 0⟩, 0, false⟩).2 := ⟨_, rfl⟩
  rw [← hos] at oo hol
  have hL6 := o6.len
  have hT6 : l6.take l6.length = l6 := List.take_length
  rw [hL6] at hT6
  obtain ⟨ao, rfl, oo⟩ := oo
  have b5D := fun G => blkAt_app b5C G
  have bzD := fun G => blkAt_app bzC G
  have n5 := blkAt_len b5C
  have nz := blkAt_len bzC
  simp [hL6, hT6, b5D, bzD, n5, nz, hL, hT, List.append_assoc, -set_lt]
  obtain ⟨D, hD⟩ : ∃ D : Heap, D = C ++ (G6 ++ [some ⟨43, .wr, [l6]⟩]) := ⟨_, rfl⟩
  rw [← List.set_append_left _ _ nz, ← hD]
  have kD : Keep [] C D := by rw [hD]; exact Keep.app _ _ _
  have ooD := oo.app [some ⟨43, .wr, [l6]⟩]
  rw [List.append_assoc, ← hD] at ooD
  have hlC := hto.len
  have hltC := (hcY1.next hBC).len
  obtain ⟨HF, hHF⟩ : ∃ HF : Heap, HF = D.set H.length (some ⟨32, .wr, [l]⟩) := ⟨_, rfl⟩
  rw [← hHF]
  have nzD : H.length < D.length := by have := kD.1; omega
  have b2 : blkAt HF H.length = some ⟨32, .wr, [l]⟩ := by rw [hHF]; exact blkAt_set nzD
  have kF : Keep [H.length] D HF := by rw [hHF]; exact Keep.set _ _
  have kA : Keep [] H HF := (((k0.next hk (by simp)).next (hcY1.next hBC).1 (by simp; omega)).next kD (by simp)).next kF (by simp)
  have oF := (oxC.keep kD (by simp)).keep kF (fun k hk h => by have := hfp k hk; simp at h; omega)
  have qF := ooD.keep kF (fun k hk h => by have := hf6 k (by simp [hk]); simp at h; omega)
  have fin : ∀ (tm : Ab.T), tm 2 = .ptr H.length 0 0 → tm 3 = .int (u - 1) → tm 4 = .w (.lf (.sl ao os.length)) → Q .ret tm HF := by
    intro tm s2 s3 s4
    refine hQ _ _ _ (by simp) ?_
    have hres : resT env.τ tm HF (Tryz.f25.results.toList) = some [W.agg l, W.lf (.i .i64 (u - 1)), W.lf (.sl ao os.length)] := by simp [Tryz.f25, s2, s3, s4, b2, hL, hT]
    rw [hres, optK_some]
    rcases leave_opt H HF [W.agg l, W.lf (.i .i64 (u - 1)), W.lf (.sl ao os.length)] with e | ⟨e, hr⟩ <;> rw [e]
    · exact ⟨⟨l, x, _, _, os, rfl, oF.rd, ⟨ao, rfl, qF.sl⟩, hxs, by unfold I64; omega, hol⟩, kA⟩
    · simp only [List.all_cons, Bool.and_eq_true] at hr
      exact ⟨⟨l, x, _, _, os, rfl, (oF.free hr.1 H).rd, (IsSl.free ⟨ao, rfl, qF⟩ (by simpa [W.free] using hr.2.2.1) H).rd, hxs, by unfold I64; omega, hol⟩, Keep.refl _ _⟩
  refine fin _ ?_ ?_ ?_ <;> simp

theorem sameFlagsL {H : Heap} {q r : Lf} {xs ys : List Bool} (h : RdBoolS H q xs) (h2 : RdBoolS H r ys) (hn : xs.length ≤ 1048576) : run env 72 [.w (.lf q), .w (.lf r)] H = some (.bool (decide (xs = ys)), H) := by
  obtain ⟨a, rfl, ha⟩ := h
  obtain ⟨b, rfl, hb⟩ := h2
  refine run_walk ok72 Tryz.func72 rfl (by simp [Tryz.f72]) fun Q hQ => ?_
  simp only [Tryz.f72, strip, stripL, stripI, stripG, chkT, tagsB, tagsL, tagD, addT, tagA, lookN, tagOp, elmT, ty22, ty26, ty27, ty28, ty29, ty30, ty41, ty53, ty56, Nat.reduceEqDiff, if_false, reduceIte, Option.getD_some, Option.getD_none, dstAt, dstOk, Nat.reduceLT, decide_true, if_true]
  simp [builtinV, pureB, lenV]
  refine selS_intro (fun hl => ?_) (fun hl => ?_)
  · simp
    refine hQ _ _ _ (by simp) ?_
    simp at hl
    have : ¬ xs = ys := fun h => hl (by rw [h])
    simp [Tryz.f72, this]
  simp at hl
  simp [builtinV, pureB, lenV]
  refine wpS_loop (fun j tm H' => ∃ i, i + j = xs.length ∧ tm 0 = .w (.lf (.sl a xs.length)) ∧ tm 1 = .w (.lf (.sl b ys.length)) ∧ tm 5 = .int i ∧ H' = H ∧ xs.take i = ys.take i) xs.length (by rw [env_K]; omega) ⟨0, by simp, by simp, by simp, by simp, rfl, by simp⟩ ?_
  rintro j tm H' hj ⟨i, hij, h0, h1, h5, rfl, heq⟩ Q' hn' he' hr'
  simp [h0, h1, h5, builtinV, pureB, lenV]
  refine selS_intro (fun hc => ?_) (fun hc => ?_)
  · simp at hc
    have hc2 : i < ys.length := by omega
    obtain ⟨id, r, bl, rfl, hbl, hbe, hrow⟩ := ha i _ (by simp [hc]; rfl)
    obtain ⟨id2, r2, bl2, rfl, hbl2, hbe2, hrow2⟩ := hb i _ (by simp [hc2]; rfl)
    have g4 : IntKind.i64.wrap ((i : Int) + 1) = (i : Int) + 1 := wrap64 (by omega) (by omega)
    simp [h0, h1, h5, indexAddrV, elemIs, hbl, hbe, hbl2, hbe2, hc, hc2, hrow, hrow2, encB]
    refine selS_intro (fun hd => ?_) (fun hd => ?_)
    · simp
      refine hr' _ _ ?_
      simp
      refine hQ _ _ _ (by simp) ?_
      have : ¬ xs = ys := fun h => by subst h; simp at hd
      simp [Tryz.f72, this]
    · have hxy : xs[i] = ys[i] := by
        refine encB_inj ?_
        simpa [encB] using hd
      simp [h0, h1, h5, g4]
      exact hn' (j - 1) _ _ (by omega) ⟨i + 1, by omega, by simp [h0], by simp [h1], by simp, rfl, by rw [List.take_add_one, List.take_add_one, heq]; simp [hc, hc2, hxy]⟩
  · simp at hc
    simp [h0, h1, h5]
    refine he' _ _ _ ?_
    simp
    refine hQ _ _ _ (by simp) ?_
    have : xs = ys := by
      rw [List.take_of_length_le (by omega), List.take_of_length_le (by omega)] at heq
      exact heq
    simp [Tryz.f72, this]

theorem sameInsL {H : Heap} {q r : Lf} {xs ys : List In} (h : RdInS H q xs) (h2 : RdInS H r ys) (hn : xs.length ≤ 1048576) : run env 73 [.w (.lf q), .w (.lf r)] H = some (.bool (decide (xs = ys)), H) := by
  obtain ⟨a, rfl, ha⟩ := h
  obtain ⟨b, rfl, hb⟩ := h2
  refine run_walk ok73 Tryz.func73 rfl (by simp [Tryz.f73]) fun Q hQ => ?_
  simp only [Tryz.f73, strip, stripL, stripI, stripG, chkT, tagsB, tagsL, tagD, addT, tagA, lookN, tagOp, elmT, ty22, ty26, ty27, ty28, ty29, ty30, ty41, ty53, ty56, Nat.reduceEqDiff, if_false, reduceIte, Option.getD_some, Option.getD_none, dstAt, dstOk, Nat.reduceLT, decide_true, if_true]
  simp [builtinV, pureB, lenV]
  refine selS_intro (fun hl => ?_) (fun hl => ?_)
  · simp
    refine hQ _ _ _ (by simp) ?_
    simp at hl
    have : ¬ xs = ys := fun h => hl (by rw [h])
    simp [Tryz.f73, this]
  simp at hl
  simp [builtinV, pureB, lenV]
  refine wpS_loop (fun j tm H' => ∃ i, i + j = xs.length ∧ tm 0 = .w (.lf (.sl a xs.length)) ∧ tm 1 = .w (.lf (.sl b ys.length)) ∧ tm 5 = .int i ∧ H' = H ∧ xs.take i = ys.take i) xs.length (by rw [env_K]; omega) ⟨0, by simp, by simp, by simp, by simp, rfl, by simp⟩ ?_
  rintro j tm H' hj ⟨i, hij, h0, h1, h5, rfl, heq⟩ Q' hn' he' hr'
  simp [h0, h1, h5, builtinV, pureB, lenV]
  refine selS_intro (fun hc => ?_) (fun hc => ?_)
  · simp at hc
    have hc2 : i < ys.length := by omega
    obtain ⟨id, r, bl, rfl, hbl, hbe, hrow⟩ := ha i _ (by simp [hc]; rfl)
    obtain ⟨id2, r2, bl2, rfl, hbl2, hbe2, hrow2⟩ := hb i _ (by simp [hc2]; rfl)
    have g4 : IntKind.i64.wrap ((i : Int) + 1) = (i : Int) + 1 := wrap64 (by omega) (by omega)
    simp [h0, h1, h5, indexAddrV, elemIs, hbl, hbe, hbl2, hbe2, hc, hc2, hrow, hrow2, In.enc]
    refine selS_intro (fun hd => ?_) (fun hd => ?_)
    · simp
      refine hr' _ _ ?_
      simp
      refine hQ _ _ _ (by simp) ?_
      have : ¬ xs = ys := fun h => by subst h; simp at hd
      simp [Tryz.f73, this]
    · have hxy : xs[i] = ys[i] := by
        refine In.enc_inj ?_
        simpa [In.enc] using hd
      simp [h0, h1, h5, g4]
      exact hn' (j - 1) _ _ (by omega) ⟨i + 1, by omega, by simp [h0], by simp [h1], by simp, rfl, by rw [List.take_add_one, List.take_add_one, heq]; simp [hc, hc2, hxy]⟩
  · simp at hc
    simp [h0, h1, h5]
    refine he' _ _ _ ?_
    simp
    refine hQ _ _ _ (by simp) ?_
    have : xs = ys := by
      rw [List.take_of_length_le (by omega), List.take_of_length_le (by omega)] at heq
      exact heq
    simp [Tryz.f73, this]

theorem sameMinderL {H : Heap} {l r : List Lf} {x y : Minder} (h : RdMinder H l x) (h2 : RdMinder H r y) (hn : x.sz ≤ 1048576) : run env 74 [.agg l, .agg r] H = some (.bool (decide (x = y)), H) := by
  obtain ⟨a, rfl, h⟩ := h
  obtain ⟨b, rfl, h2⟩ := h2
  have e := fun G => sameInsL (q := .sl a x.log.length) (r := .sl b y.log.length) (xs := x.log) (ys := y.log) (H := H ++ G) ⟨a, rfl, h.app G⟩ ⟨b, rfl, h2.app G⟩ hn
  refine run_walk ok74 Tryz.func74 rfl (by simp [Tryz.f74]) fun Q hQ => ?_
  simp only [Tryz.f74, strip, stripL, stripI, stripG, chkT, tagsB, tagsL, tagD, addT, tagA, lookN, tagOp, elmT, ty22, ty26, ty27, ty28, ty29, ty30, ty41, ty53, ty56, Nat.reduceEqDiff, if_false, reduceIte, Option.getD_some, Option.getD_none, dstAt, dstOk, Nat.reduceLT, decide_true, if_true]
  simp [Minder.enc]
  repeat' (first | (refine gdL_t (fun h => ?_) (fun h => ?_) <;> simp [h, e]) | (refine gdL_f (fun h => ?_) (fun h => ?_) <;> simp [h, e]) | (refine selS_intro (fun h => ?_) (fun h => ?_) <;> simp [h, e]))
  all_goals (refine hQ _ _ _ (by simp) ?_)
  all_goals (clear hQ; obtain ⟨x1, x2, x3, x4, x5, x6, x7⟩ := x; obtain ⟨y1, y2, y3, y4, y5, y6, y7⟩ := y; simp_all [Tryz.f74])

theorem sameBoxL {H : Heap} {l r : List Lf} {x y : Box} (h : RdBox H l x) (h2 : RdBox H r y) (hn : x.sz ≤ 1048576) : run env 29 [.agg l, .agg r] H = some (.bool (decide (x = y)), H) := by
  obtain ⟨q0, q1, q2, q3, q4, rfl, ⟨a0, rws, rfl, hs, hlen, hat⟩, ⟨a1, rfl, ha1⟩, hg, hl, ⟨a4, rfl, ha4⟩⟩ := h
  obtain ⟨r0, r1, r2, r3, r4, rfl, ⟨c0, rws2, rfl, hs2, hlen2, hat2⟩, ⟨c1, rfl, hc1⟩, hg2, hl2, ⟨c4, rfl, hc4⟩⟩ := h2
  have hz := hn
  have hz2 := MinderS.sz_len x.two
  unfold Box.sz at hz
  have e1 := fun G => sameFlagsL (hg.app G) (hg2.app G) (by omega)
  have e2 := fun G => sameInsL (hl.app G) (hl2.app G) (by omega)
  refine run_walk ok29 Tryz.func29 rfl (by simp [Tryz.f29]) fun Q hQ => ?_
  simp only [Tryz.f29, strip, stripL, stripI, stripG, chkT, tagsB, tagsL, tagD, addT, tagA, lookN, tagOp, elmT, ty22, ty26, ty27, ty28, ty29, ty30, ty41, ty53, ty56, Nat.reduceEqDiff, if_false, reduceIte, Option.getD_some, Option.getD_none, dstAt, dstOk, Nat.reduceLT, decide_true, if_true]
  have bad : x ≠ y → ∀ tm H', (∃ G, H' = H ++ G) → tm 4 = .bool false → Q .ret tm H' := by
    rintro hx tm _ ⟨G, rfl⟩ h4
    refine hQ _ _ _ (by simp) ?_
    simp [Tryz.f29, h4, hx]
  simp [Box.enc, builtinV, pureB, lenV]
  refine gdL_f (fun hd0 => ?_) (fun hd0 => ?_)
  · simp [hd0]
    exact bad (fun hx => by subst hx; simp at hd0) _ _ ⟨_, rfl⟩ (by simp)
  simp [hd0, Box.enc, builtinV, pureB, lenV, e1, e2]
  refine gdL_f (fun hd1 => ?_) (fun hd1 => ?_)
  · simp [hd1]
    exact bad (fun hx => by subst hx; simp at hd1) _ _ ⟨_, rfl⟩ (by simp)
  simp [hd1, Box.enc, builtinV, pureB, lenV, e1, e2]
  refine gdL_f (fun hd2 => ?_) (fun hd2 => ?_)
  · simp [hd2]
    exact bad (fun hx => by subst hx; simp at hd2) _ _ ⟨_, rfl⟩ (by simp)
  simp [hd2, Box.enc, builtinV, pureB, lenV, e1, e2]
  refine gdL_f (fun hd3 => ?_) (fun hd3 => ?_)
  · simp [hd3]
    exact bad (fun hx => by subst hx; simp at hd3) _ _ ⟨_, rfl⟩ (by simp)
  simp [hd3, Box.enc, builtinV, pureB, lenV, e1, e2]
  refine gdL_f (fun hd4 => ?_) (fun hd4 => ?_)
  · simp [hd4]
    exact bad (fun hx => by subst hx; simp at hd4) _ _ ⟨_, rfl⟩ (by simp)
  simp [hd4, Box.enc, builtinV, pureB, lenV, e1, e2]
  refine gdL_f (fun hd5 => ?_) (fun hd5 => ?_)
  · simp [hd5]
    exact bad (fun hx => by subst hx; simp at hd5) _ _ ⟨_, rfl⟩ (by simp)
  simp [hd5, Box.enc, builtinV, pureB, lenV, e1, e2]
  refine gdL_f (fun hd6 => ?_) (fun hd6 => ?_)
  · simp [hd6]
    exact bad (fun hx => by subst hx; simp at hd6) _ _ ⟨_, rfl⟩ (by simp)
  simp [hd6, Box.enc, builtinV, pureB, lenV, e1, e2]
  refine selS_intro (fun hd7 => ?_) (fun hd7 => ?_)
  · simp
    exact bad (fun hx => by subst hx; simp at hd7) _ _ ⟨_, rfl⟩ (by simp)
  simp at hd0 hd1 hd2 hd3 hd4 hd5 hd6 hd7
  simp
  refine wpS_loop (fun j tm H' => ∃ i, i + j = x.two.length ∧ tm 2 = .ptr H.length 0 0 ∧ tm 3 = .ptr (H.length + 1) 0 0 ∧ tm 5 = .int i ∧ H' = H ++ [some ⟨32, .wr, [x.enc (.sl a0 x.two.length) (.sl a1 x.net.length) q2 q3 (.sl a4 x.said.length)]⟩, some ⟨32, .wr, [y.enc (.sl c0 y.two.length) (.sl c1 y.net.length) r2 r3 (.sl c4 y.said.length)]⟩] ∧ x.two.take i = y.two.take i) x.two.length (by rw [env_K]; omega) ⟨0, by simp, by simp, by simp, by simp, by simp [Box.enc], by simp⟩ ?_
  rintro j tm1 H' hj ⟨i, hij, t2, t3, t5, rfl, heq⟩ Q' hn' he' hr'
  simp [t2, t3, t5, Box.enc, builtinV, pureB, lenV]
  refine selS_intro (fun hc => ?_) (fun hc => ?_)
  · simp at hc
    have hc2 : i < y.two.length := by omega
    have hri : i < rws.length := by omega
    have hri2 : i < rws2.length := by omega
    obtain ⟨id, r, bl, rfl, hbl, hbe, hrow⟩ := hs i _ (List.getElem?_eq_getElem hri)
    obtain ⟨id2, r2, bl2, rfl, hbl2, hbe2, hrow2⟩ := hs2 i _ (List.getElem?_eq_getElem hri2)
    have he := hat i _ _ (List.getElem?_eq_getElem hri) (List.getElem?_eq_getElem hc)
    have he2 := hat2 i _ _ (List.getElem?_eq_getElem hri2) (List.getElem?_eq_getElem hc2)
    have hL := he.len
    have hT : rws[i].take rws[i].length = rws[i] := List.take_length
    rw [hL] at hT
    have hL2 := he2.len
    have hT2 : rws2[i].take rws2[i].length = rws2[i] := List.take_length
    rw [hL2] at hT2
    have hsz := MinderS.sz_at (List.getElem_mem hc)
    have ee := fun G => sameMinderL (he.app G) (he2.app G) (by omega)
    have hbl' := fun G => blkAt_app hbl G
    have hbl2' := fun G => blkAt_app hbl2 G
    have g4 : IntKind.i64.wrap ((i : Int) + 1) = (i : Int) + 1 := wrap64 (by omega) (by omega)
    simp [t2, t3, t5, Box.enc, indexAddrV, elemIs, hbl', hbe, hbl2', hbe2, hc, hc2, hrow, hrow2, hL, hT, hL2, hT2, ee]
    refine selS_intro (fun hd => ?_) (fun hd => ?_)
    · simp
      refine hr' _ _ ?_
      simp
      exact bad (fun h => by subst h; simp at hd) _ _ ⟨_, rfl⟩ (by simp)
    · have hxy : x.two[i] = y.two[i] := by simpa using hd
      simp [t2, t3, t5, g4]
      exact hn' (j - 1) _ _ (by omega) ⟨i + 1, by omega, by simp [t2], by simp [t3], by simp, by simp [Box.enc], by rw [List.take_add_one, List.take_add_one, heq]; simp [hc, hc2, hxy]⟩
  simp at hc
  simp [t2, t3, t5]
  refine he' _ _ _ ?_
  simp
  have etwo : x.two = y.two := by
    rw [List.take_of_length_le (by omega), List.take_of_length_le (by omega)] at heq
    exact heq
  have s2 := t2
  have s3 := t3
  clear hn' he' hr' t5 heq
  refine wpS_loop (fun j tm H' => ∃ i, i + j = x.net.length ∧ tm 2 = .ptr H.length 0 0 ∧ tm 3 = .ptr (H.length + 1) 0 0 ∧ tm 6 = .int i ∧ H' = H ++ [some ⟨32, .wr, [x.enc (.sl a0 x.two.length) (.sl a1 x.net.length) q2 q3 (.sl a4 x.said.length)]⟩, some ⟨32, .wr, [y.enc (.sl c0 y.two.length) (.sl c1 y.net.length) r2 r3 (.sl c4 y.said.length)]⟩] ∧ x.net.take i = y.net.take i) x.net.length (by rw [env_K]; omega) ⟨0, by simp, by simp [s2, s3], by simp [s2, s3], by simp, by simp [Box.enc], by simp⟩ ?_
  rintro j tm2 H' hj ⟨i, hij, t2, t3, t5, rfl, heq⟩ Q' hn' he' hr'
  simp [t2, t3, t5, Box.enc, builtinV, pureB, lenV]
  refine selS_intro (fun hc => ?_) (fun hc => ?_)
  · simp at hc
    have hc2 : i < y.net.length := by omega
    obtain ⟨id, r, bl, rfl, hbl, hbe, hrow⟩ := ha1 i _ (by simp [hc]; rfl)
    obtain ⟨id2, r2, bl2, rfl, hbl2, hbe2, hrow2⟩ := hc1 i _ (by simp [hc2]; rfl)
    have hbl' := fun G => blkAt_app hbl G
    have hbl2' := fun G => blkAt_app hbl2 G
    have g4 : IntKind.i64.wrap ((i : Int) + 1) = (i : Int) + 1 := wrap64 (by omega) (by omega)
    simp [t2, t3, t5, Box.enc, indexAddrV, elemIs, hbl', hbe, hbl2', hbe2, hc, hc2, hrow, hrow2, Wire.enc]
    refine selS_intro (fun hd => ?_) (fun hd => ?_)
    · simp
      refine hr' _ _ ?_
      simp
      exact bad (fun h => by subst h; simp at hd) _ _ ⟨_, rfl⟩ (by simp)
    · have hxy : x.net[i] = y.net[i] := by
        refine Wire.enc_inj ?_
        simpa [Wire.enc] using hd
      simp [t2, t3, t5, g4]
      exact hn' (j - 1) _ _ (by omega) ⟨i + 1, by omega, by simp [t2], by simp [t3], by simp, by simp [Box.enc], by rw [List.take_add_one, List.take_add_one, heq]; simp [hc, hc2, hxy]⟩
  simp at hc
  simp [t2, t3, t5]
  refine he' _ _ _ ?_
  simp
  have enet : x.net = y.net := by
    rw [List.take_of_length_le (by omega), List.take_of_length_le (by omega)] at heq
    exact heq
  have s2 := t2
  have s3 := t3
  clear hn' he' hr' t5 heq
  refine wpS_loop (fun j tm H' => ∃ i, i + j = x.said.length ∧ tm 2 = .ptr H.length 0 0 ∧ tm 3 = .ptr (H.length + 1) 0 0 ∧ tm 7 = .int i ∧ H' = H ++ [some ⟨32, .wr, [x.enc (.sl a0 x.two.length) (.sl a1 x.net.length) q2 q3 (.sl a4 x.said.length)]⟩, some ⟨32, .wr, [y.enc (.sl c0 y.two.length) (.sl c1 y.net.length) r2 r3 (.sl c4 y.said.length)]⟩] ∧ x.said.take i = y.said.take i) x.said.length (by rw [env_K]; omega) ⟨0, by simp, by simp [s2, s3], by simp [s2, s3], by simp, by simp [Box.enc], by simp⟩ ?_
  rintro j tm3 H' hj ⟨i, hij, t2, t3, t5, rfl, heq⟩ Q' hn' he' hr'
  simp [t2, t3, t5, Box.enc, builtinV, pureB, lenV]
  refine selS_intro (fun hc => ?_) (fun hc => ?_)
  · simp at hc
    have hc2 : i < y.said.length := by omega
    obtain ⟨id, r, bl, rfl, hbl, hbe, hrow⟩ := ha4 i _ (by simp [hc]; rfl)
    obtain ⟨id2, r2, bl2, rfl, hbl2, hbe2, hrow2⟩ := hc4 i _ (by simp [hc2]; rfl)
    have hbl' := fun G => blkAt_app hbl G
    have hbl2' := fun G => blkAt_app hbl2 G
    have g4 : IntKind.i64.wrap ((i : Int) + 1) = (i : Int) + 1 := wrap64 (by omega) (by omega)
    simp [t2, t3, t5, Box.enc, indexAddrV, elemIs, hbl', hbe, hbl2', hbe2, hc, hc2, hrow, hrow2, Out.enc]
    refine selS_intro (fun hd => ?_) (fun hd => ?_)
    · simp
      refine hr' _ _ ?_
      simp
      exact bad (fun h => by subst h; simp at hd) _ _ ⟨_, rfl⟩ (by simp)
    · have hxy : x.said[i] = y.said[i] := by
        refine Out.enc_inj ?_
        simpa [Out.enc] using hd
      simp [t2, t3, t5, g4]
      exact hn' (j - 1) _ _ (by omega) ⟨i + 1, by omega, by simp [t2], by simp [t3], by simp, by simp [Box.enc], by rw [List.take_add_one, List.take_add_one, heq]; simp [hc, hc2, hxy]⟩
  simp at hc
  simp [t2, t3, t5]
  refine he' _ _ _ ?_
  simp
  have esaid : x.said = y.said := by
    rw [List.take_of_length_le (by omega), List.take_of_length_le (by omega)] at heq
    exact heq
  have s2 := t2
  have s3 := t3
  clear hn' he' hr' t5 heq
  refine hQ _ _ _ (by simp) ?_
  have hxy : x = y := by
    obtain ⟨x1, x2, x3, x4, x5, x6, x7, x8⟩ := x
    obtain ⟨y1, y2, y3, y4, y5, y6, y7, y8⟩ := y
    obtain ⟨u1, u2, u3⟩ := x3
    obtain ⟨v1, v2, v3⟩ := y3
    simp_all
  simp [Tryz.f29, hxy]

theorem boxNew_no {i p : Int} (h : (boxNew i p).2 = false) : (boxNew i p).1 = ⟨0, 0, ⟨0, 0, 0⟩, [], [], [], [], []⟩ := by
  unfold boxNew at h ⊢
  split at h
  · simp at h
  · rename_i hh; rw [if_neg hh]
theorem boxNew_yes {i p : Int} (h : (boxNew i p).2 = true) : (boxNew i p).1 = ⟨i, p, ⟨1, 0, 0⟩, [newM0, newM1], [], List.replicate p.toNat false, [], []⟩ ∧ (bridgeNew i p).2 = true := by
  unfold boxNew at h ⊢
  split at h
  · rename_i hh; rw [if_pos hh]; exact ⟨rfl, hh⟩
  · simp at h
theorem newBox_judged {i p : Int} (h : (bridgeNew i p).2 = true) : judgeAll ⟨i, p, ⟨1, 0, 0⟩, [newM0, newM1], [], List.replicate p.toNat false, [], []⟩ = true ∧ minds ⟨1, 0, 0⟩ 0 newM0 = true ∧ heir ⟨i, p, ⟨1, 0, 0⟩, [newM0, newM1], [], List.replicate p.toNat false, [], []⟩ = false := by
  have hok := boxNew_ok h
  have hb : (bridgeNew i p).1 = ⟨i, List.replicate p.toNat Port.zv⟩ := by
    unfold bridgeNew at h ⊢
    split at h
    · rename_i hh; rw [if_pos hh]
    · simp at h
  have hm : minds ⟨1, 0, 0⟩ 0 newM0 = true := by decide
  have hm1 : minds ⟨1, 0, 0⟩ 1 newM1 = false := by decide
  refine ⟨?_, hm, ?_⟩
  · have h1 : judgeGates ⟨i, p, ⟨1, 0, 0⟩, [newM0, newM1], [], List.replicate p.toNat false, [], []⟩ = true := by
      simp [judgeGates, hok, bridgeOf, hb, gates]
    have h2 : judgeSaid ⟨i, p, ⟨1, 0, 0⟩, [newM0, newM1], [], List.replicate p.toNat false, [], []⟩ = true := by
      simp [judgeSaid, hok, lastL, upto]
    have h3 : judgeLogs ⟨i, p, ⟨1, 0, 0⟩, [newM0, newM1], [], List.replicate p.toNat false, [], []⟩ = true := by
      simp [judgeLogs, hok, logGood, hm, hm1, begins]
      simp [newM0]
    simp [judgeAll, h1, h2, h3]
  · simp [heir, heirM, newM1]
theorem boxNew_sz (i p : Int) : ((boxNew i p).1).sz ≤ 1000 := by
  cases h : (boxNew i p).2
  · rw [boxNew_no h]; simp [Box.sz, MinderS.sz]
  · obtain ⟨h1, h2⟩ := boxNew_yes h
    rw [h1]
    exact (Box.smallOf (boxNew_ok h2)).1.sz
theorem boxesLaw {H : Heap} {a : Option (Nat × Nat)} {bs : List Int} (hs : Sl H 5 a (bs.map encU)) : Runs env 4 [.w (.lf (.sl a bs.length))] H fun v _ => v = .bool true := by
  have eb := fun (H : Heap) => bigL (H := H) (a := a) (n := bs.length)
  refine Runs.walk ok4 Tryz.func4 rfl (by simp [Tryz.f4]) fun Q hQ => ?_
  simp only [Tryz.f4, strip, stripL, stripI, stripG, chkT, tagsB, tagsL, tagD, addT, tagA, lookN, tagOp, elmT, ty22, ty26, ty27, ty28, ty29, ty30, ty41, ty53, ty56, Nat.reduceEqDiff, if_false, reduceIte, Option.getD_some, Option.getD_none, dstAt, dstOk, Nat.reduceLT, decide_true, if_true]
  simp [eb]
  refine selS_intro (fun hb => ?_) (fun hb => ?_)
  · simp
    refine hQ _ _ _ (by simp) ?_
    simp [Tryz.f4]
  simp at hb
  have hn : bs.length ≤ 1048576 := by omega
  simp
  refine stpL_runs (drawBoxNew hs hn) ?_
  rintro _ X1 ⟨⟨i, p, rfl, hi, hp⟩, kX1⟩
  simp
  refine stpL_runs (implBoxNew_is i hi p hp) ?_
  have hNs := boxNew_sz i p
  have hNn := @boxNew_no i p
  have hNy := @boxNew_yes i p
  obtain ⟨y, hy⟩ : ∃ y, y = (boxNew i p).1 := ⟨_, rfl⟩
  obtain ⟨ok, hok⟩ : ∃ ok, ok = (boxNew i p).2 := ⟨_, rfl⟩
  rw [← hok] at hNn hNy
  rw [← hy] at hNs hNn hNy
  rw [← hy, ← hok]
  rintro _ _ ⟨l1, f1, rfl, o1, ⟨⟨G1, rfl⟩, -⟩⟩
  have hL1 := o1.len
  have hT1 : l1.take l1.length = l1 := List.take_length
  rw [hL1] at hT1
  simp [hL1, hT1]
  obtain ⟨X2, hX2⟩ : ∃ X2 : Heap, X2 = X1 ++ (G1 ++ [some ⟨32, .wr, [l1]⟩]) := ⟨_, rfl⟩
  have b5 : blkAt X2 (X1.length + G1.length) = some ⟨32, .wr, [l1]⟩ := by rw [hX2]; simp
  have k2 : Keep [] X1 X2 := by rw [hX2]; exact Keep.app _ _ _
  have o1 := o1.app [some ⟨32, .wr, [l1]⟩]
  rw [List.append_assoc, ← hX2] at o1
  rw [← hX2]
  obtain ⟨K5, hK5⟩ : ∃ K, K = X1.length + G1.length := ⟨_, rfl⟩
  rw [← hK5] at b5 ⊢
  clear hX2
  refine stpL_runs (specBoxNew_is i hi p hp) ?_
  rw [← hy, ← hok]
  rintro _ _ ⟨l2, f2, rfl, o2, ⟨⟨G2, rfl⟩, -⟩⟩
  have hL2 := o2.len
  have hT2 : l2.take l2.length = l2 := List.take_length
  rw [hL2] at hT2
  simp [hL2, hT2]
  obtain ⟨X3, hX3⟩ : ∃ X3 : Heap, X3 = X2 ++ (G2 ++ [some ⟨32, .wr, [l2]⟩]) := ⟨_, rfl⟩
  have b7 : blkAt X3 (X2.length + G2.length) = some ⟨32, .wr, [l2]⟩ := by rw [hX3]; simp
  have k3 : Keep [] X2 X3 := by rw [hX3]; exact Keep.app _ _ _
  have o2 := (o2.app [some ⟨32, .wr, [l2]⟩]).rd
  rw [List.append_assoc, ← hX3] at o2
  rw [← hX3]
  obtain ⟨K7, hK7⟩ : ∃ K, K = X2.length + G2.length := ⟨_, rfl⟩
  rw [← hK7] at b7 ⊢
  clear hX3
  have kH3 : Keep [] H X3 := (kX1.next k2 (by simp)).next k3 (by simp)
  refine stpL_runs (drawBoxOk (hs.keep kH3 (by simp)) hn) ?_
  rintro _ X4 ⟨⟨l4, x4, f4, rfl, o4, hs4⟩, k4⟩
  simp
  refine stpL_runs (drawReleased (hs.keep (kH3.next k4 (by simp)) (by simp)) hn) ?_
  rintro _ X5 ⟨⟨l5, x5, f5, rfl, o5, hs5⟩, k5⟩
  have hL4 := o4.len
  have hT4 : l4.take l4.length = l4 := List.take_length
  rw [hL4] at hT4
  have hL5 := o5.len
  have hT5 : l5.take l5.length = l5 := List.take_length
  rw [hL5] at hT5
  simp [hL4, hT4, hL5, hT5]
  obtain ⟨X6, hX6⟩ : ∃ X6 : Heap, X6 = X5 ++ [some ⟨32, .wr, [l4]⟩, some ⟨32, .wr, [l5]⟩] := ⟨_, rfl⟩
  have b9 : blkAt X6 X5.length = some ⟨32, .wr, [l4]⟩ := by rw [hX6]; simp
  have b10 : blkAt X6 (X5.length + 1) = some ⟨32, .wr, [l5]⟩ := by rw [hX6]; simp
  have k6 : Keep [] X5 X6 := by rw [hX6]; exact Keep.app _ _ _
  rw [← hX6]
  clear hX6
  have k36 := (k4.next k5 (by simp)).next k6 (by simp)
  have kH6 := kH3.next k36 (by simp)
  refine stpL_runs (drawAccept (hs.keep kH6 (by simp)) hn) ?_
  rintro _ X7 ⟨⟨l6, x6, s6, q6, os, rfl, o6, oq6, hs6, hi6, hos⟩, k7⟩
  have hL6 := o6.len
  have hT6 : l6.take l6.length = l6 := List.take_length
  rw [hL6] at hT6
  simp [hL6, hT6]
  obtain ⟨X8, hX8⟩ : ∃ X8 : Heap, X8 = X7 ++ [some ⟨32, .wr, [l6]⟩] := ⟨_, rfl⟩
  have b11 : blkAt X8 X7.length = some ⟨32, .wr, [l6]⟩ := by rw [hX8]; simp
  have k8 : Keep [] X7 X8 := by rw [hX8]; exact Keep.app _ _ _
  rw [← hX8]
  clear hX8
  have kH8 := (kH6.next k7 (by simp)).next k8 (by simp)
  refine stpL_runs (drawBridgeNew (hs.keep kH8 (by simp)) hn) ?_
  rintro _ X9 ⟨⟨bi, bp, rfl, hbi, hbp⟩, k9⟩
  simp
  refine stpL_runs (implBridgeNew X9 bi bp) ?_
  have hBz : ((bridgeNew bi bp).1).ports.length ≤ 4 := bridgeOf_len bi bp []
  obtain ⟨z, hz⟩ : ∃ z, z = (bridgeNew bi bp).1 := ⟨_, rfl⟩
  obtain ⟨okb, hokb⟩ : ∃ okb, okb = (bridgeNew bi bp).2 := ⟨_, rfl⟩
  rw [← hz] at hBz
  rw [← hz, ← hokb]
  rintro _ _ ⟨m1, g1, rfl, p1, ⟨⟨G9, rfl⟩, -⟩⟩
  have hM1 := p1.rd.len
  have hN1 : m1.take m1.length = m1 := List.take_length
  rw [hM1] at hN1
  simp [hM1, hN1]
  obtain ⟨Y1, hY1⟩ : ∃ Y1 : Heap, Y1 = X9 ++ (G9 ++ [some ⟨43, .wr, [m1]⟩]) := ⟨_, rfl⟩
  have b16 : blkAt Y1 (X9.length + G9.length) = some ⟨43, .wr, [m1]⟩ := by rw [hY1]; simp
  have k10 : Keep [] X9 Y1 := by rw [hY1]; exact Keep.app _ _ _
  have p1 := (p1.app [some ⟨43, .wr, [m1]⟩]).rd
  rw [List.append_assoc, ← hY1] at p1
  rw [← hY1]
  obtain ⟨K16, hK16⟩ : ∃ K, K = X9.length + G9.length := ⟨_, rfl⟩
  rw [← hK16] at b16 ⊢
  clear hY1
  refine stpL_runs (specBridgeNew Y1 bi bp) ?_
  rw [← hz, ← hokb]
  rintro _ _ ⟨m2, g2, rfl, p2, ⟨⟨G10, rfl⟩, -⟩⟩
  have hM2 := p2.rd.len
  have hN2 : m2.take m2.length = m2 := List.take_length
  rw [hM2] at hN2
  simp [hM2, hN2]
  obtain ⟨Y2, hY2⟩ : ∃ Y2 : Heap, Y2 = Y1 ++ (G10 ++ [some ⟨43, .wr, [m2]⟩]) := ⟨_, rfl⟩
  have b18 : blkAt Y2 (Y1.length + G10.length) = some ⟨43, .wr, [m2]⟩ := by rw [hY2]; simp
  have k11 : Keep [] Y1 Y2 := by rw [hY2]; exact Keep.app _ _ _
  have p2 := (p2.app [some ⟨43, .wr, [m2]⟩]).rd
  rw [List.append_assoc, ← hY2] at p2
  rw [← hY2]
  obtain ⟨K18, hK18⟩ : ∃ K, K = Y1.length + G10.length := ⟨_, rfl⟩
  rw [← hK18] at b18 ⊢
  clear hY2
  have q9 := k10.next k11 (by simp)
  have q8 := k9.next q9 (by simp)
  have q7 := k8.next q8 (by simp)
  have q6' := k7.next q7 (by simp)
  have q5 := k6.next q6' (by simp)
  have q4 := k5.next q5 (by simp)
  have q3 := k4.next q4 (by simp)
  have q2 := k3.next q3 (by simp)
  have c5 := q2.blk b5 (by simp)
  have c7 := q3.blk b7 (by simp)
  have c9 := q6'.blk b9 (by simp)
  have c10 := q6'.blk b10 (by simp)
  have c11 := q8.blk b11 (by simp)
  have c16 := k11.blk b16 (by simp)
  have d5 := blkAt_len c5
  have d7 := blkAt_len c7
  have d9 := blkAt_len c9
  have d10 := blkAt_len c10
  have d11 := blkAt_len c11
  have d16 := blkAt_len c16
  have d18 := blkAt_len b18
  have r1 := o1.keep q2 (by simp)
  have r2 := o2.base q3
  have r4 := o4.rd.base q4
  have r5 := o5.rd.base q5
  have r6 := o6.base q7
  have rq := oq6.base q7
  have t1 := p1.base k11
  have e1 := sameBoxL r1.rd r2 (by omega)
  have e2 := implBoxOk_is r4 (by omega)
  have e3 := specBoxOk_is r4 (by omega)
  have e4 := implReleased_is r5 (by omega)
  have e5 := specReleased_is r5 (by omega)
  have hdif : ∀ K, difV (.int p) (.ptr K 0 0) = true := fun _ => rfl
  simp [c5, d5, c7, d7, hL1, hT1, hL2, hT2, e1, c9, d9, c10, d10, hL4, hT4, hL5, hT5, e2, e3, e4, e5, c11, d11, hL6, hT6, hdif]
  refine stpL_runs_f (implAccept_is r6 (by omega) rq (by omega) s6 hi6) (by rintro _ _ ⟨_, _, _, _, hf⟩; exact hf.1) ?_
  have haz : (accept x6 s6 os).sz ≤ 1048576 := accept_sz0 (by omega)
  obtain ⟨w, hw⟩ : ∃ w, w = accept x6 s6 os := ⟨_, rfl⟩
  rw [← hw] at haz ⊢
  rintro _ _ ⟨l7, f7, rfl, o7, ⟨⟨G11, rfl⟩, -⟩⟩
  have c11a := fun G => blkAt_app c11 G
  simp [c11a, d11, hL6, hT6]
  refine stpL_runs_f (specAccept_is (r6.app G11) (by omega) (rq.app G11) (by omega) s6 hi6) (by rintro _ _ ⟨_, _, _, _, hf⟩; exact hf.1) ?_
  rw [← hw]
  rintro _ _ ⟨l8, f8, rfl, o8, ⟨⟨G12, rfl⟩, -⟩⟩
  have e6 := sameBoxL (o7.rd.app G12) o8.rd haz
  have e7 := sameBridgeL ((t1.app G11).app G12) ((p2.app G11).app G12) (by unfold Bridge.sz; omega)
  rw [List.append_assoc] at e6 e7
  have c16a := fun G => blkAt_app c16 G
  have b18a := fun G => blkAt_app b18 G
  have c5a := fun G => blkAt_app c5 G
  simp [e6, e7, c16a, d16, b18a, d18, hM1, hN1, hM2, hN2, List.append_assoc]
  have r1a := r1.app (G11 ++ G12)
  obtain ⟨w0, w1, w2, w3, w4, hl1, ⟨a0, rws, rfl, hrs, hlen, hat⟩, -⟩ := r1.rd
  have c5l := fun G => c5a G
  rw [hl1] at c5l
  simp only [Box.enc] at c5l
  have d5a : ∀ G : Heap, K5 < (Y2 ++ G).length := fun G => by simp; omega
  cases hk : ok
  · have hyz := hNn hk
    have hid : y.id = 0 := by rw [hyz]
    simp [c5l, d5, hid]
    refine hQ _ _ _ (by simp) ?_
    simp [Tryz.f4]
  · obtain ⟨hye, hbn⟩ := hNy hk
    obtain ⟨hj, hm, hh⟩ := newBox_judged hbn
    have hyo := boxNew_ok hbn
    rw [← hye] at hj hh hyo
    have h2 : y.two.length = 2 := by rw [hye]; rfl
    have hm0 : y.two[0] = newM0 := by simp [hye]
    have hrg : y.reg = ⟨1, 0, 0⟩ := by rw [hye]
    obtain ⟨id3, r3, bl3, rfl, hb3, hbe3, hrow3⟩ := hrs 0 _ (List.getElem?_eq_getElem (by omega))
    rw [Nat.add_zero] at hrow3
    have hM := hat 0 _ _ (List.getElem?_eq_getElem (by omega)) (List.getElem?_eq_getElem (by omega))
    have hLm := hM.len
    have hTm : rws[0].take rws[0].length = rws[0] := List.take_length
    rw [hLm] at hTm
    have b3a := fun G => blkAt_app hb3 G
    have n3 := blkAt_len hb3
    have g0 : (0 : Int) < y.two.length := by omega
    have f1 := implBoxOk_is r1a.rd (by omega)
    have f2 := implJudgeAll_is r1a (by omega)
    have f3 := implMinds_is (hM.app (G11 ++ G12)) (by rw [hm0]; simp [Minder.sz, newM0]) y.reg 0 (by unfold I64; omega)
    have f4 := implHeir_is r1a.rd (by omega)
    rw [hyo] at f1
    rw [hj] at f2
    rw [hh] at f4
    rw [hm0, hrg] at f3
    rw [hm] at f3
    simp only [Reg.enc] at f3
    rw [hl1] at f1 f2 f4
    simp only [Box.enc, hrg, h2] at f1 f2 f4
    simp [c5l, d5, f1, f2, hrg, indexAddrV, elemIs, b3a, n3, hbe3, hrow3, h2, hLm, hTm, f3, f4]
    refine hQ _ _ _ (by simp) ?_
    simp [Tryz.f4]
end W
end Go.Proofs.YtfhaanknijlamaaGreat
