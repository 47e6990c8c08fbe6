/- The walk of ObjPuts. Conditions stand as premises. -/
import Derived.Test.YtfhpdhfhahbfnaaRefData
import Derived.Test.YtfhpdhfhahbfnaaObjF
namespace Go.Proofs.Ytfhpdhfhahbfnaa
open Go.ChangeShapes Go.WideShapes Go.ChangeAt Go.RowKit
set_option linter.unusedVariables false

set_option maxRecDepth 100000 in
set_option maxHeartbeats 4000000 in
theorem objputs_law (kind v0 v1 v2 v3 v4 v5 u0 u1 u2 : Int) (a : Option Addr) (n c : Nat) (l : List Int) (a' : Option Addr) (n' c' : Nat) (l' : List Int) (w : World) (hr : RdB w a n c l) (hr2 : RdB w a' n' c' l')
    (g0 : U8 v0) (g1 : U8 v1) (g2 : U8 v2) (g3 : U8 v3) (g4 : U8 v4) (g5 : U8 v5) (k0 : U8 u0) (k1 : U8 u1) (k2 : U8 u2) :
    Calls Try.prog 3 #[.int .i64 kind, .agg #[.int .u64 v0, .int .u64 v1, .int .u64 v2, .int .u64 v3, .int .u64 v4, .int .u64 v5, .slice a n c], .agg #[.int .u64 u0, .int .u64 u1, .int .u64 u2, .slice a' n' c']] w fun e w' => e = .returned (.bool true) ∧ Below w.heap.size w w' := by
  have hD0 := (Box6.new w 25 v0 v1 v2 v3 v4 v5 a n c)
  have hB0 := below_alloc w (.cells #[.int .u64 v0, .int .u64 v1, .int .u64 v2, .int .u64 v3, .int .u64 v4, .int .u64 v5, .slice a n c] 25)
  have hF0 := Box3.new (w.alloc (.cells #[.int .u64 v0, .int .u64 v1, .int .u64 v2, .int .u64 v3, .int .u64 v4, .int .u64 v5, .slice a n c] 25)) 27 u0 u1 u2 a' n' c'
  have hD1 := hD0.mono (below_alloc _ (.cells #[.int .u64 u0, .int .u64 u1, .int .u64 u2, .slice a' n' c'] 27)) hD0.lt
  have hB1 := hB0.alloc hB0.size (.cells #[.int .u64 u0, .int .u64 u1, .int .u64 u2, .slice a' n' c'] 27)
  obtain ⟨B0, e0⟩ : ∃ B, w.heap.size = B := ⟨_, rfl⟩
  obtain ⟨B1, e1⟩ : ∃ B, (w.alloc (.cells #[.int .u64 v0, .int .u64 v1, .int .u64 v2, .int .u64 v3, .int .u64 v4, .int .u64 v5, .slice a n c] 25)).heap.size = B := ⟨_, rfl⟩
  have e1' : w.heap.size + 1 = B1 := by rw [← e1]; simp
  rw [e0] at hD1
  rw [e1] at hF0
  have E0 := Lib.hid e0
  have E1 := Lib.hid e1'
  clear hD0 hB0 e1 e0 e1'
  have hr := Lib.hid hr
  have hr2 := Lib.hid hr2
  go_enter Try.func3, Try.ntmps3
  go_wp2_with fail
  rw [E1.out]
  rw [E0.out]

  generalize (w.alloc (.cells #[.int .u64 v0, .int .u64 v1, .int .u64 v2, .int .u64 v3, .int .u64 v4, .int .u64 v5, .slice a n c] 25)).alloc (.cells #[.int .u64 u0, .int .u64 u1, .int .u64 u2, .slice a' n' c'] 27) = w1 at *
  refine (ofirst_any _).mono ?_
  rintro e w2 ⟨rfl, hb⟩
  have hD := hD1.mono hb hD1.lt
  have hF := hF0.mono hb hF0.lt
  have hB := hB1.trans (hb.mono hB1.size)
  have d6 := hD.d6
  have f3 := hF.d3
  have d0 := hD.d0
  have d1 := hD.d1
  have d2 := hD.d2
  have d3 := hD.d3
  have d4 := hD.d4
  have d5 := hD.d5
  have f0 := hF.d0
  have f1 := hF.d1
  have f2 := hF.d2
  clear hD1 hF0 hB1 hb
  by_cases h300 : (300 : Int) < (n : Int)
  · go_wp2_with fail
    go_ret
    exact ⟨rfl, hB⟩
  by_cases h300' : (300 : Int) < (n' : Int)
  · have h0 : (n : Int) ≤ 300 := by omega
    clear h300
    go_wp2_with fail
    go_ret
    exact ⟨rfl, hB⟩
  have q1 : (n : Int) ≤ 300 := by omega
  have q2 : (n' : Int) ≤ 300 := by omega
  have hl1 : n ≤ 140737488350000 := by omega
  have hl2 : n ≤ 140737488330000 := by omega
  have hl3 : n' ≤ 140737488330000 := by omega
  clear h300 h300'
  have hFa := hF.mono (below_alloc w2 (.cells #[.int .u64 v0, .int .u64 v1, .int .u64 v2, .int .u64 v3, .int .u64 v4, .int .u64 v5, .slice a n c] 29)) hF.lt
  have fa0 := hFa.d0
  have fa1 := hFa.d1
  have fa2 := hFa.d2
  have fa3 := hFa.d3
  clear hFa
  go_wp2_with fail
  clear fa0 fa1 fa2 fa3
  have hX := (Box6.new w2 29 v0 v1 v2 v3 v4 v5 a n c)
  have hY := Box3.new (w2.alloc (.cells #[.int .u64 v0, .int .u64 v1, .int .u64 v2, .int .u64 v3, .int .u64 v4, .int .u64 v5, .slice a n c] 29)) 30 u0 u1 u2 a' n' c'
  have hX := hX.mono (below_alloc _ (.cells #[.int .u64 u0, .int .u64 u1, .int .u64 u2, .slice a' n' c'] 30)) hX.lt
  have hb2 : Below w2.heap.size w2 ((w2.alloc (.cells #[.int .u64 v0, .int .u64 v1, .int .u64 v2, .int .u64 v3, .int .u64 v4, .int .u64 v5, .slice a n c] 29)).alloc (.cells #[.int .u64 u0, .int .u64 u1, .int .u64 u2, .slice a' n' c'] 30)) := (below_alloc w2 (.cells #[.int .u64 v0, .int .u64 v1, .int .u64 v2, .int .u64 v3, .int .u64 v4, .int .u64 v5, .slice a n c] 29)).alloc (by simp) _
  have hD := hD.mono hb2 hD.lt
  have hF := hF.mono hb2 hF.lt
  have hB := hB.trans (hb2.mono hB.size)
  obtain ⟨B2, e2⟩ : ∃ B, w2.heap.size = B := ⟨_, rfl⟩
  obtain ⟨B3, e3⟩ : ∃ B, (w2.alloc (.cells #[.int .u64 v0, .int .u64 v1, .int .u64 v2, .int .u64 v3, .int .u64 v4, .int .u64 v5, .slice a n c] 29)).heap.size = B := ⟨_, rfl⟩
  have e3' : w2.heap.size + 1 = B3 := by rw [← e3]; simp
  rw [e2] at hX
  rw [e3] at hY
  rw [e3']
  rw [e2]
  clear e2 e3 e3' hb2 d0 d1 d2 d3 d4 d5 d6 f0 f1 f2 f3
  generalize (w2.alloc (.cells #[.int .u64 v0, .int .u64 v1, .int .u64 v2, .int .u64 v3, .int .u64 v4, .int .u64 v5, .slice a n c] 29)).alloc (.cells #[.int .u64 u0, .int .u64 u1, .int .u64 u2, .slice a' n' c'] 30) = w3 at *
  have hb := below_drew w3
  have hD := hD.mono hb hD.lt
  have hF := hF.mono hb hF.lt
  have hX := hX.mono hb hX.lt
  have hY := hY.mono hb hY.lt
  have hB := hB.trans (hb.mono hB.size)
  clear hb
  go_region_held3 (fun w' : World => w'.cell? ⟨B0, 0, none⟩ = some (.int .u64 v0) ∧ w'.cell? ⟨B0, 1, none⟩ = some (.int .u64 v1) ∧ w'.cell? ⟨B0, 2, none⟩ = some (.int .u64 v2) ∧ w'.cell? ⟨B0, 3, none⟩ = some (.int .u64 v3) ∧ w'.cell? ⟨B0, 4, none⟩ = some (.int .u64 v4) ∧ w'.cell? ⟨B0, 5, none⟩ = some (.int .u64 v5) ∧ w'.cell? ⟨B0, 6, none⟩ = some (.slice a n c) ∧ w'.cell? ⟨B1, 0, none⟩ = some (.int .u64 u0) ∧ w'.cell? ⟨B1, 1, none⟩ = some (.int .u64 u1) ∧ w'.cell? ⟨B1, 2, none⟩ = some (.int .u64 u2) ∧ w'.cell? ⟨B1, 3, none⟩ = some (.slice a' n' c') ∧ w'.cell? ⟨B2, 0, none⟩ = some (.int .u64 v0) ∧ w'.cell? ⟨B2, 1, none⟩ = some (.int .u64 v1) ∧ w'.cell? ⟨B2, 2, none⟩ = some (.int .u64 v2) ∧ w'.cell? ⟨B2, 3, none⟩ = some (.int .u64 v3) ∧ w'.cell? ⟨B2, 4, none⟩ = some (.int .u64 v4) ∧ w'.cell? ⟨B2, 5, none⟩ = some (.int .u64 v5) ∧ w'.cell? ⟨B2, 6, none⟩ = some (.slice a n c) ∧ w'.cell? ⟨B3, 0, none⟩ = some (.int .u64 u0) ∧ w'.cell? ⟨B3, 1, none⟩ = some (.int .u64 u1) ∧ w'.cell? ⟨B3, 2, none⟩ = some (.int .u64 u2) ∧ w'.cell? ⟨B3, 3, none⟩ = some (.slice a' n' c')) (exact ⟨hD.d0, hD.d1, hD.d2, hD.d3, hD.d4, hD.d5, hD.d6, hF.d0, hF.d1, hF.d2, hF.d3, hX.d0, hX.d1, hX.d2, hX.d3, hX.d4, hX.d5, hX.d6, hY.d0, hY.d1, hY.d2, hY.d3⟩) ((first | (go_at_call 10; refine (put_obj a n c kind l _ (hr.out.mono hB) hl1).mono ?_; rintro e w5 ⟨a1, c1, rfl, ho1, hb⟩; have hq1 := ho1.rd; have hD := hD.mono hb hD.lt; have hF := hF.mono hb hF.lt; have hX := hX.mono hb hX.lt; have hY := hY.mono hb hY.lt; have hB := hB.trans (hb.mono hB.size); clear ho1 hb) | (go_at_call 11; refine (refput_obj a n c kind l _ (hr.out.mono hB) hl1).mono ?_; rintro e w5 ⟨a2, c2, rfl, ho2, hb⟩; have hq2 := ho2.rd; have hq1 := hq1.mono hb; have hD := hD.mono hb hD.lt; have hF := hF.mono hb hF.lt; have hX := hX.mono hb hX.lt; have hY := hY.mono hb hY.lt; have hB := hB.trans (hb.mono hB.size); clear ho2 hb) | (go_at_call 12; refine (putdata_any v0 v1 v2 v3 v4 v5 a n c l _ (hr.out.mono hB) hl2 g0 g1 g2 g3 g4 g5).mono ?_; rintro e w5 ⟨a3, c3, rfl, ho3, hb⟩; have hq3 := ho3.rd; have hD := hD.mono hb hD.lt; have hF := hF.mono hb hF.lt; have hX := hX.mono hb hX.lt; have hY := hY.mono hb hY.lt; have hB := hB.trans (hb.mono hB.size); clear ho3 hb) | (go_at_call 13; refine (refputdata_any v0 v1 v2 v3 v4 v5 a n c l _ (hr.out.mono hB) hl2 g0 g1 g2 g3 g4 g5).mono ?_; rintro e w5 ⟨a4, c4, rfl, ho4, hb⟩; have hq4 := ho4.rd; have hq3 := hq3.mono hb; have hD := hD.mono hb hD.lt; have hF := hF.mono hb hF.lt; have hX := hX.mono hb hX.lt; have hY := hY.mono hb hY.lt; have hB := hB.trans (hb.mono hB.size); clear ho4 hb) | (go_at_call 14; refine (putfield_any u0 u1 u2 a' n' c' l' _ (hr2.out.mono hB) hl3 k0 k1 k2).mono ?_; rintro e w5 ⟨a5, c5, rfl, ho5, hb⟩; have hq5 := ho5.rd; have hD := hD.mono hb hD.lt; have hF := hF.mono hb hF.lt; have hX := hX.mono hb hX.lt; have hY := hY.mono hb hY.lt; have hB := hB.trans (hb.mono hB.size); clear ho5 hb) | (go_at_call 15; refine (refputfield_any u0 u1 u2 a' n' c' l' _ (hr2.out.mono hB) hl3 k0 k1 k2).mono ?_; rintro e w5 ⟨a6, c6, rfl, ho6, hb⟩; have hq6 := ho6.rd; have hq5 := hq5.mono hb; have hD := hD.mono hb hD.lt; have hF := hF.mono hb hF.lt; have hX := hX.mono hb hX.lt; have hY := hY.mono hb hY.lt; have hB := hB.trans (hb.mono hB.size); clear ho6 hb) | (go_at_call 9; refine (same_any _ _ _ _ _ _ _ _ _ hq1 hq2).mono ?_; rintro e w5 ⟨rfl, rfl⟩; rw [decide_eq_true rfl]) | (go_at_call 9; refine (same_any _ _ _ _ _ _ _ _ _ hq3 hq4).mono ?_; rintro e w5 ⟨rfl, rfl⟩; rw [decide_eq_true rfl]) | (go_at_call 9; refine (same_any _ _ _ _ _ _ _ _ _ hq5 hq6).mono ?_; rintro e w5 ⟨rfl, rfl⟩; rw [decide_eq_true rfl])))
  go_wp2_with fail
  go_ret
  exact ⟨rfl, hB⟩
end Go.Proofs.Ytfhpdhfhahbfnaa
