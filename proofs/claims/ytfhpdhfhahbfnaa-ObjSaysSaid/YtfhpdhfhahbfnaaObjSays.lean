/- The walk of ObjSays. Conditions stand as premises. -/
import Derived.Test.YtfhpdhfhahbfnaaObjSame
import Derived.Test.YtfhpdhfhahbfnaaObjF
namespace Go.Proofs.Ytfhpdhfhahbfnaa
open Go.ChangeShapes Go.WideShapes Go.ChangeAt Go.RowKit
set_option linter.unusedVariables false

set_option maxRecDepth 100000 in
set_option maxHeartbeats 4000000 in
theorem objsays_law (p : Int) (a : Option Addr) (n c : Nat) (l : List Int) (w : World) (hr : RdB w a n c l) (hp : U8 p) :
    Calls Try.prog 6 #[.slice a n c, .int .u64 p] w fun e w' => e = .returned (.bool true) ∧ Below w.heap.size w w' := by
  obtain ⟨h0, h1⟩ := hp
  have Hr := Lib.hid hr
  obtain ⟨k, f, s, hV⟩ : ∃ k f s, readV l p = frameV k s ∧ f = 0 := by
    unfold readV; split
    · exact ⟨_, 0, _, rfl, rfl⟩
    · exact ⟨_, 0, _, rfl, rfl⟩
  obtain ⟨hV, hf⟩ := hV
  clear hf f
  have H1 := Lib.hid (fun w' (hn : n ≤ 140737488351232) (hb : RdB w' a n c l) => objread_any p a n c l w' hb hn h0 h1)
  have H2 := Lib.hid (fun w' (hn : n ≤ 140737488351232) (hb : RdB w' a n c l) => refread_any p a n c l w' hb hn h0 h1)
  have H3 := Lib.hid (fun w' (hn : n ≤ 140737488351232) (hb : RdB w' a n c l) => readdata_any p a n c l w' hb hn h0 h1)
  have H4 := Lib.hid (fun w' (hn : n ≤ 140737488351232) (hb : RdB w' a n c l) => refreaddata_any p a n c l w' hb hn h0 h1)
  have H5 := Lib.hid (fun w' (hn : n ≤ 140737488351232) (hb : RdB w' a n c l) => readfield_any p a n c l w' hb hn h0 h1)
  have H6 := Lib.hid (fun w' (hn : n ≤ 140737488351232) (hb : RdB w' a n c l) => refreadfield_any p a n c l w' hb hn h0 h1)
  rw [hV, frameV_eq] at H1 H2
  clear hr hV
  generalize readC l p = C at *
  generalize objC l p 1 6 = D at *
  generalize objC l p 2 3 = E at *
  generalize objP l p 1 6 = P1 at *
  generalize objP l p 2 3 = P2 at *
  generalize objN l p 1 6 = V at *
  generalize objN l p 2 3 = U at *
  go_enter Try.func6, Try.ntmps6
  go_wp2_with fail
  refine (ofirst_any _).mono ?_
  rintro e w1 ⟨rfl, hB1⟩
  by_cases h600 : (600 : Int) < (n : Int)
  · go_wp2_with fail
    go_ret
    exact ⟨rfl, hB1⟩
  have q1 : (n : Int) ≤ 600 := by omega
  have hn : n ≤ 140737488351232 := by omega
  clear h600
  go_wp2_with fail
  refine (H1.out _ hn (Hr.out.mono hB1)).mono ?_
  rintro e w2 ⟨rfl, hb⟩
  have hB2 := hB1.trans (hb.mono hB1.size)
  have hF := FrameB.new w2 42 k 0 s
  have hBx := hB2.alloc hB2.size (.cells #[.int .i64 k, .int .i64 0, .int .u64 s] 42)
  go_wp2_with fail
  generalize w2.heap.size = A1 at *
  generalize (w2.alloc (.cells #[.int .i64 k, .int .i64 0, .int .u64 s] 42)) = x2 at *
  refine (H2.out _ hn (Hr.out.mono hBx)).mono ?_
  clear hb hB1 hB2
  rintro e w3 ⟨rfl, hb⟩
  have hF := hF.mono hb hF.lt
  have hB3 := hBx.trans (hb.mono hBx.size)
  have hG := FrameB.new w3 48 k 0 s
  have hBa := (below_alloc w3 (.cells #[.int .i64 k, .int .i64 0, .int .u64 s] 48))
  have hF := hF.mono hBa hF.lt
  have hBx := hB3.alloc hB3.size (.cells #[.int .i64 k, .int .i64 0, .int .u64 s] 48)
  go_wp2_with fail
  generalize w3.heap.size = A2 at *
  generalize (w3.alloc (.cells #[.int .i64 k, .int .i64 0, .int .u64 s] 48)) = x3 at *
  refine (H3.out _ hn (Hr.out.mono hBx)).mono ?_
  clear hb hBa hB3
  rintro e w4 ⟨b1, m1, c1, rfl, hp1, hb⟩
  have hF := hF.mono hb hF.lt
  have hG := hG.mono hb hG.lt
  have hB4 := hBx.trans (hb.mono hBx.size)
  have hX1 := Box6.new w4 25 (V 0) (V 1) (V 2) (V 3) (V 4) (V 5) b1 m1 c1
  have hBa := (below_alloc w4 (.cells #[.int .u64 (V 0), .int .u64 (V 1), .int .u64 (V 2), .int .u64 (V 3), .int .u64 (V 4), .int .u64 (V 5), .slice b1 m1 c1] 25))
  have hF := hF.mono hBa hF.lt
  have hG := hG.mono hBa hG.lt
  have hp1 := hp1.mono hBa
  have hBx := hB4.alloc hB4.size (.cells #[.int .u64 (V 0), .int .u64 (V 1), .int .u64 (V 2), .int .u64 (V 3), .int .u64 (V 4), .int .u64 (V 5), .slice b1 m1 c1] 25)
  go_wp2_with fail
  generalize w4.heap.size = A3 at *
  generalize (w4.alloc (.cells #[.int .u64 (V 0), .int .u64 (V 1), .int .u64 (V 2), .int .u64 (V 3), .int .u64 (V 4), .int .u64 (V 5), .slice b1 m1 c1] 25)) = x4 at *
  refine (H4.out _ hn (Hr.out.mono hBx)).mono ?_
  clear hb hBa hB4
  rintro e w5 ⟨b2, m2, c2, rfl, hp2, hb⟩
  have hF := hF.mono hb hF.lt
  have hG := hG.mono hb hG.lt
  have hX1 := hX1.mono hb hX1.lt
  have hp1 := hp1.mono hb
  have hB5 := hBx.trans (hb.mono hBx.size)
  have hX2 := Box6.new w5 29 (V 0) (V 1) (V 2) (V 3) (V 4) (V 5) b2 m2 c2
  have hBa := (below_alloc w5 (.cells #[.int .u64 (V 0), .int .u64 (V 1), .int .u64 (V 2), .int .u64 (V 3), .int .u64 (V 4), .int .u64 (V 5), .slice b2 m2 c2] 29))
  have hF := hF.mono hBa hF.lt
  have hG := hG.mono hBa hG.lt
  have hX1 := hX1.mono hBa hX1.lt
  have hp1 := hp1.mono hBa
  have hp2 := hp2.mono hBa
  have hBx := hB5.alloc hB5.size (.cells #[.int .u64 (V 0), .int .u64 (V 1), .int .u64 (V 2), .int .u64 (V 3), .int .u64 (V 4), .int .u64 (V 5), .slice b2 m2 c2] 29)
  go_wp2_with fail
  generalize w5.heap.size = A4 at *
  generalize (w5.alloc (.cells #[.int .u64 (V 0), .int .u64 (V 1), .int .u64 (V 2), .int .u64 (V 3), .int .u64 (V 4), .int .u64 (V 5), .slice b2 m2 c2] 29)) = x5 at *
  refine (H5.out _ hn (Hr.out.mono hBx)).mono ?_
  clear hb hBa hB5
  rintro e w6 ⟨b3, m3, c3, rfl, hp3, hb⟩
  have hF := hF.mono hb hF.lt
  have hG := hG.mono hb hG.lt
  have hX1 := hX1.mono hb hX1.lt
  have hX2 := hX2.mono hb hX2.lt
  have hp1 := hp1.mono hb
  have hp2 := hp2.mono hb
  have hB6 := hBx.trans (hb.mono hBx.size)
  have hY1 := Box3.new w6 27 (U 0) (U 1) (U 2) b3 m3 c3
  have hBa := (below_alloc w6 (.cells #[.int .u64 (U 0), .int .u64 (U 1), .int .u64 (U 2), .slice b3 m3 c3] 27))
  have hF := hF.mono hBa hF.lt
  have hG := hG.mono hBa hG.lt
  have hX1 := hX1.mono hBa hX1.lt
  have hX2 := hX2.mono hBa hX2.lt
  have hp1 := hp1.mono hBa
  have hp2 := hp2.mono hBa
  have hp3 := hp3.mono hBa
  have hBx := hB6.alloc hB6.size (.cells #[.int .u64 (U 0), .int .u64 (U 1), .int .u64 (U 2), .slice b3 m3 c3] 27)
  go_wp2_with fail
  generalize w6.heap.size = A5 at *
  generalize (w6.alloc (.cells #[.int .u64 (U 0), .int .u64 (U 1), .int .u64 (U 2), .slice b3 m3 c3] 27)) = x6 at *
  refine (H6.out _ hn (Hr.out.mono hBx)).mono ?_
  clear hb hBa hB6
  rintro e w7 ⟨b4, m4, c4, rfl, hp4, hb⟩
  have hF := hF.mono hb hF.lt
  have hG := hG.mono hb hG.lt
  have hX1 := hX1.mono hb hX1.lt
  have hX2 := hX2.mono hb hX2.lt
  have hY1 := hY1.mono hb hY1.lt
  have hp1 := hp1.mono hb
  have hp2 := hp2.mono hb
  have hp3 := hp3.mono hb
  have hB7 := hBx.trans (hb.mono hBx.size)
  have hY2 := Box3.new w7 30 (U 0) (U 1) (U 2) b4 m4 c4
  have hBa := (below_alloc w7 (.cells #[.int .u64 (U 0), .int .u64 (U 1), .int .u64 (U 2), .slice b4 m4 c4] 30))
  have hF := hF.mono hBa hF.lt
  have hG := hG.mono hBa hG.lt
  have hX1 := hX1.mono hBa hX1.lt
  have hX2 := hX2.mono hBa hX2.lt
  have hY1 := hY1.mono hBa hY1.lt
  have hp1 := hp1.mono hBa
  have hp2 := hp2.mono hBa
  have hp3 := hp3.mono hBa
  have hp4 := hp4.mono hBa
  have hBx := hB7.alloc hB7.size (.cells #[.int .u64 (U 0), .int .u64 (U 1), .int .u64 (U 2), .slice b4 m4 c4] 30)
  go_wp2_with fail
  generalize w7.heap.size = A6 at *
  generalize (w7.alloc (.cells #[.int .u64 (U 0), .int .u64 (U 1), .int .u64 (U 2), .slice b4 m4 c4] 30)) = x7 at *
  clear hb hBa hB7
  have hD := below_drew x7
  have hF := hF.mono hD hF.lt
  have hG := hG.mono hD hG.lt
  have hX1 := hX1.mono hD hX1.lt
  have hX2 := hX2.mono hD hX2.lt
  have hY1 := hY1.mono hD hY1.lt
  have hY2 := hY2.mono hD hY2.lt
  have hp1 := hp1.mono hD
  have hp2 := hp2.mono hD
  have hp3 := hp3.mono hD
  have hp4 := hp4.mono hD
  have hBx := hBx.trans (hD.mono hBx.size)
  clear hD H1 H2 H3 H4 H5 H6 Hr
  go_region_held3 (fun w' : World => w'.cell? ⟨A1, 0, none⟩ = some (.int .i64 k) ∧ w'.cell? ⟨A1, 1, none⟩ = some (.int .i64 0) ∧ w'.cell? ⟨A1, 2, none⟩ = some (.int .u64 s) ∧ w'.cell? ⟨A2, 0, none⟩ = some (.int .i64 k) ∧ w'.cell? ⟨A2, 1, none⟩ = some (.int .i64 0) ∧ w'.cell? ⟨A2, 2, none⟩ = some (.int .u64 s) ∧ w'.cell? ⟨A3, 0, none⟩ = some (.int .u64 (V 0)) ∧ w'.cell? ⟨A3, 1, none⟩ = some (.int .u64 (V 1)) ∧ w'.cell? ⟨A3, 2, none⟩ = some (.int .u64 (V 2)) ∧ w'.cell? ⟨A3, 3, none⟩ = some (.int .u64 (V 3)) ∧ w'.cell? ⟨A3, 4, none⟩ = some (.int .u64 (V 4)) ∧ w'.cell? ⟨A3, 5, none⟩ = some (.int .u64 (V 5)) ∧ w'.cell? ⟨A3, 6, none⟩ = some (.slice b1 m1 c1) ∧ w'.cell? ⟨A4, 0, none⟩ = some (.int .u64 (V 0)) ∧ w'.cell? ⟨A4, 1, none⟩ = some (.int .u64 (V 1)) ∧ w'.cell? ⟨A4, 2, none⟩ = some (.int .u64 (V 2)) ∧ w'.cell? ⟨A4, 3, none⟩ = some (.int .u64 (V 3)) ∧ w'.cell? ⟨A4, 4, none⟩ = some (.int .u64 (V 4)) ∧ w'.cell? ⟨A4, 5, none⟩ = some (.int .u64 (V 5)) ∧ w'.cell? ⟨A4, 6, none⟩ = some (.slice b2 m2 c2) ∧ w'.cell? ⟨A5, 0, none⟩ = some (.int .u64 (U 0)) ∧ w'.cell? ⟨A5, 1, none⟩ = some (.int .u64 (U 1)) ∧ w'.cell? ⟨A5, 2, none⟩ = some (.int .u64 (U 2)) ∧ w'.cell? ⟨A5, 3, none⟩ = some (.slice b3 m3 c3) ∧ w'.cell? ⟨A6, 0, none⟩ = some (.int .u64 (U 0)) ∧ w'.cell? ⟨A6, 1, none⟩ = some (.int .u64 (U 1)) ∧ w'.cell? ⟨A6, 2, none⟩ = some (.int .u64 (U 2)) ∧ w'.cell? ⟨A6, 3, none⟩ = some (.slice b4 m4 c4)) (exact ⟨hF.d0, hF.d1, hF.d2, hG.d0, hG.d1, hG.d2, hX1.d0, hX1.d1, hX1.d2, hX1.d3, hX1.d4, hX1.d5, hX1.d6, hX2.d0, hX2.d1, hX2.d2, hX2.d3, hX2.d4, hX2.d5, hX2.d6, hY1.d0, hY1.d1, hY1.d2, hY1.d3, hY2.d0, hY2.d1, hY2.d2, hY2.d3⟩) ((first | (go_at_call 24; refine (frame_any k 0 s _).mono ?_; rintro e w9 ⟨rfl, hb⟩; have hF := hF.mono hb hF.lt; have hG := hG.mono hb hG.lt; have hX1 := hX1.mono hb hX1.lt; have hX2 := hX2.mono hb hX2.lt; have hY1 := hY1.mono hb hY1.lt; have hY2 := hY2.mono hb hY2.lt; have hp1 := hp1.mono hb; have hp2 := hp2.mono hb; have hp3 := hp3.mono hb; have hp4 := hp4.mono hb; have hBx := hBx.trans (hb.mono hBx.size); clear hb) | (go_at_call 25; refine (sameData_any (V 0) (V 1) (V 2) (V 3) (V 4) (V 5) b1 b2 m1 c1 m2 c2 _ _ hp1 hp2).mono ?_; rintro e w9 ⟨rfl, hb⟩; have hF := hF.mono hb hF.lt; have hG := hG.mono hb hG.lt; have hX1 := hX1.mono hb hX1.lt; have hX2 := hX2.mono hb hX2.lt; have hY1 := hY1.mono hb hY1.lt; have hY2 := hY2.mono hb hY2.lt; have hp1 := hp1.mono hb; have hp2 := hp2.mono hb; have hp3 := hp3.mono hb; have hp4 := hp4.mono hb; have hBx := hBx.trans (hb.mono hBx.size); clear hb) | (go_at_call 26; refine (sameField_any (U 0) (U 1) (U 2) b3 b4 m3 c3 m4 c4 _ _ hp3 hp4).mono ?_; rintro e w9 ⟨rfl, hb⟩; have hF := hF.mono hb hF.lt; have hG := hG.mono hb hG.lt; have hX1 := hX1.mono hb hX1.lt; have hX2 := hX2.mono hb hX2.lt; have hY1 := hY1.mono hb hY1.lt; have hY2 := hY2.mono hb hY2.lt; have hp1 := hp1.mono hb; have hp2 := hp2.mono hb; have hp3 := hp3.mono hb; have hp4 := hp4.mono hb; have hBx := hBx.trans (hb.mono hBx.size); clear hb)))
  go_wp2_with fail
  go_ret
  exact ⟨rfl, hBx⟩
end Go.Proofs.Ytfhpdhfhahbfnaa
