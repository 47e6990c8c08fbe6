/- The statement of ObjPuts: for every input the law answers true and leaves its arguments as they were. No condition. -/
import Derived.Test.YtfhpdhfhahbfnaaObjPuts
import Derived.Test.YtfhpdhfhahbfnaaAgg
import Derived.ShutString
import Derived.ChangeOld
import Derived.Below
namespace Go.Proofs.Ytfhpdhfhahbfnaa.objPuts
open Go.ChangeShapes Go.WideShapes Go.ChangeAt Go.RowKit
open Go.ChangeMaps (open_string shut_string)
set_option linter.unusedVariables false

theorem own : ownKnob Try.prog.godebug = none := by kernel_rfl
theorem laidOut : laidOutB Try.prog = true := by kernel_rfl

set_option maxRecDepth 100000 in
theorem lifted (os : Os) (started : os.Started) (H : Type) (enc : TypeId × Value → H) :
    ReturnsInHanded {} Try.checked os 3 .any (Rows.objPutsSpec.pre6 enc Try.prog Try.f3 Rows.objPutsRow.domain false) (Rows.objPutsSpec.post enc Try.prog Try.f3 false true false false) := by
  refine returnsInHanded_of_change (C := Try.checked) own started (by kernel_rfl) Try.func3
    (ChangeSpec.witness6 (enc := enc) (C := Try.checked) false ⟨#[], #[.int .i64 0, .agg #[.int .u64 0, .int .u64 0, .int .u64 0, .int .u64 0, .int .u64 0, .int .u64 0, .slice none 0 0], .agg #[.int .u64 0, .int .u64 0, .int .u64 0, .slice none 0 0]], []⟩ 8 (by kernel_rfl) (by kernel_rfl) (by kernel_rfl) (by kernel_rfl)) ?_
  intro W base args ds gs before hval0 hW hcnd _
  have hval : ∀ (j : Nat) t v, Try.f3.params[j]? = some t → args[j]? = some v → Value.okWide Try.prog W .any base t v := hval0
  have hW' := hW
  obtain ⟨p, q, hA0, hV, rfl, hfz, hnd⟩ := hW
  have hA : DataW.TrodAll enc Try.prog W 0 (fun _ => true) true Try.f3.params.toList args.toList ds p := hA0
  rw [Try.params3] at hA hval
  obtain ⟨v0, vs0, d0, ds0, p0, q0, hargs, rfl, rfl, h0, z0⟩ := trodAll_cons hA
  obtain ⟨v1, vs1, d1, ds1, p1, q1, rfl, rfl, rfl, h1, z1⟩ := trodAll_cons z0
  obtain ⟨v2, vs2, d2, ds2, p2, q2, rfl, rfl, rfl, h2, z2⟩ := trodAll_cons z1
  obtain ⟨rfl, rfl, rfl⟩ := trodAll_nil z2
  obtain rfl : args = #[v0, v1, v2] := by cases args; simp_all
  obtain ⟨rfl, rfl⟩ := trodVars_none hV
  obtain ⟨a0, rfl, rfl, rfl, w0⟩ := open_int Try.underlying3 (hval 0 3 v0 rfl rfl) h0
  have b0 := bounds_i64 w0
  have k1 := h1
  have lt1 : ∀ x ∈ p1, x.block < W.heap.size := by obtain ⟨m, hm⟩ := k1; exact DataW.trod_lt m _ _ _ hm
  obtain ⟨u1_0, u1_1, u1_2, u1_3, u1_4, u1_5, u1_6, y1_0, y1_1, y1_2, y1_3, y1_4, y1_5, y1_6, n1, rfl, t1_0, t1_1, t1_2, t1_3, t1_4, t1_5, t1_6⟩ := open_agg_7 Try.underlying25 (by kernel_rfl) (by kernel_rfl) (hval 1 25 v1 rfl rfl) h1
  obtain ⟨a1_0, e1_0, _, w1_0⟩ := DataW.trod_int Try.underlying22 t1_0
  simp only [List.cons.injEq, and_true] at e1_0
  subst e1_0
  have b1_0 := bounds_u64 w1_0
  obtain ⟨a1_1, e1_1, _, w1_1⟩ := DataW.trod_int Try.underlying22 t1_1
  simp only [List.cons.injEq, and_true] at e1_1
  subst e1_1
  have b1_1 := bounds_u64 w1_1
  obtain ⟨a1_2, e1_2, _, w1_2⟩ := DataW.trod_int Try.underlying22 t1_2
  simp only [List.cons.injEq, and_true] at e1_2
  subst e1_2
  have b1_2 := bounds_u64 w1_2
  obtain ⟨a1_3, e1_3, _, w1_3⟩ := DataW.trod_int Try.underlying22 t1_3
  simp only [List.cons.injEq, and_true] at e1_3
  subst e1_3
  have b1_3 := bounds_u64 w1_3
  obtain ⟨a1_4, e1_4, _, w1_4⟩ := DataW.trod_int Try.underlying22 t1_4
  simp only [List.cons.injEq, and_true] at e1_4
  subst e1_4
  have b1_4 := bounds_u64 w1_4
  obtain ⟨a1_5, e1_5, _, w1_5⟩ := DataW.trod_int Try.underlying22 t1_5
  simp only [List.cons.injEq, and_true] at e1_5
  subst e1_5
  have b1_5 := bounds_u64 w1_5
  obtain ⟨a1_6, len1_6, cap1_6, l1_6, rfl, r1_6⟩ := rdB_any Try.underlying23 Try.underlying5 (by kernel_rfl) t1_6
  have k2 := h2
  have lt2 : ∀ x ∈ p2, x.block < W.heap.size := by obtain ⟨m, hm⟩ := k2; exact DataW.trod_lt m _ _ _ hm
  obtain ⟨u2_0, u2_1, u2_2, u2_3, y2_0, y2_1, y2_2, y2_3, n2, rfl, t2_0, t2_1, t2_2, t2_3⟩ := open_agg_4 Try.underlying27 (by kernel_rfl) (by kernel_rfl) (hval 2 27 v2 rfl rfl) h2
  obtain ⟨a2_0, e2_0, _, w2_0⟩ := DataW.trod_int Try.underlying22 t2_0
  simp only [List.cons.injEq, and_true] at e2_0
  subst e2_0
  have b2_0 := bounds_u64 w2_0
  obtain ⟨a2_1, e2_1, _, w2_1⟩ := DataW.trod_int Try.underlying22 t2_1
  simp only [List.cons.injEq, and_true] at e2_1
  subst e2_1
  have b2_1 := bounds_u64 w2_1
  obtain ⟨a2_2, e2_2, _, w2_2⟩ := DataW.trod_int Try.underlying22 t2_2
  simp only [List.cons.injEq, and_true] at e2_2
  subst e2_2
  have b2_2 := bounds_u64 w2_2
  obtain ⟨a2_3, len2_3, cap2_3, l2_3, rfl, r2_3⟩ := rdB_any Try.underlying23 Try.underlying5 (by kernel_rfl) t2_3
  clear hA0 hval0
  refine (objputs_law a0 a1_0 a1_1 a1_2 a1_3 a1_4 a1_5 a2_0 a2_1 a2_2 a1_6 len1_6 cap1_6 l1_6 a2_3 len2_3 cap2_3 l2_3 W r1_6 r2_3 b1_0 b1_1 b1_2 b1_3 b1_4 b1_5 b2_0 b2_1 b2_2).mono fun e W' ⟨he, bel⟩ => ?_
  subst he
  exact ⟨_, rfl, _, _, _, [], _, [], hW', trodAll_mk1 (shut_bool Try.underlying4 _), (trodAll_cons_mk (shut_int Try.underlying3 w0) (trodAll_cons_mk (Below.trod laidOut (by kernel_rfl) (of_decide_eq_true (by kernel_rfl)) k1 bel lt1) (trodAll_cons_mk (Below.trod laidOut (by kernel_rfl) (of_decide_eq_true (by kernel_rfl)) k2 bel lt2) trodAll_mk0))), rfl, bel.frame _, fun h => by cases h⟩

theorem over : Rows.objPutsRow.holds Try.pinned (OpenSpec.ofChange Rows.objPutsSpec) :=
  OpenClaim.holds_of_wide 3 Try.f3 rfl rfl rfl rfl rfl rfl rfl ⟨rfl, rfl, rfl, rfl, rfl⟩ rfl rfl rfl rfl rfl (by kernel_rfl) Try.func3 (by kernel_rfl)
    (of_decide_eq_true (by kernel_rfl)) (by unfold Func.isWrapper; first | (rw [if_pos (by decide +kernel)]; kernel_rfl) | (rw [if_neg (by decide +kernel)]; exact ⟨rfl, rfl⟩))
    (fun os started H enc _ => lifted os started H enc)

theorem proved : Rows.ObjPutsSaid := over
#print axioms proved
end Go.Proofs.Ytfhpdhfhahbfnaa.objPuts
