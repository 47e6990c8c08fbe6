/- The statement of ObjBack: for every input the law answers true and leaves its arguments as they were. No condition. -/
import Derived.Test.YtfhpdhfhahbfnaaObjBack
import Derived.Test.YtfhpdhfhahbfnaaAgg
import Derived.ShutString
import Derived.ChangeOld
import Derived.Below
namespace Go.Proofs.Ytfhpdhfhahbfnaa.objBack
open Go.ChangeShapes Go.WideShapes Go.ChangeAt Go.RowKit
open Go.ChangeMaps (open_string shut_string)
set_option linter.unusedVariables false

theorem own : ownKnob Try.prog.godebug = none := by kernel_rfl
theorem laidOut : laidOutB Try.prog = true := by kernel_rfl

set_option maxRecDepth 100000 in
theorem lifted (os : Os) (started : os.Started) (H : Type) (enc : TypeId × Value → H) :
    ReturnsInHanded {} Try.checked os 7 .any (Rows.objBackSpec.pre6 enc Try.prog Try.f7 Rows.objBackRow.domain false) (Rows.objBackSpec.post enc Try.prog Try.f7 false true false false) := by
  refine returnsInHanded_of_change (C := Try.checked) own started (by kernel_rfl) Try.func7
    (ChangeSpec.witness6 (enc := enc) (C := Try.checked) false ⟨#[], #[.agg #[.int .u64 0, .int .u64 0, .int .u64 0, .int .u64 0, .int .u64 0, .int .u64 0, .slice none 0 0], .int .i64 0], []⟩ 8 (by kernel_rfl) (by kernel_rfl) (by kernel_rfl) (by kernel_rfl)) ?_
  intro W base args ds gs before hval0 hW hcnd _
  have hval : ∀ (j : Nat) t v, Try.f7.params[j]? = some t → args[j]? = some v → Value.okWide Try.prog W .any base t v := hval0
  have hW' := hW
  obtain ⟨p, q, hA0, hV, rfl, hfz, hnd⟩ := hW
  have hA : DataW.TrodAll enc Try.prog W 0 (fun _ => true) true Try.f7.params.toList args.toList ds p := hA0
  rw [Try.params7] at hA hval
  obtain ⟨v0, vs0, d0, ds0, p0, q0, hargs, rfl, rfl, h0, z0⟩ := trodAll_cons hA
  obtain ⟨v1, vs1, d1, ds1, p1, q1, rfl, rfl, rfl, h1, z1⟩ := trodAll_cons z0
  obtain ⟨rfl, rfl, rfl⟩ := trodAll_nil z1
  obtain rfl : args = #[v0, v1] := by cases args; simp_all
  obtain ⟨rfl, rfl⟩ := trodVars_none hV
  have k0 := h0
  have lt0 : ∀ x ∈ p0, x.block < W.heap.size := by obtain ⟨m, hm⟩ := k0; exact DataW.trod_lt m _ _ _ hm
  obtain ⟨u0_0, u0_1, u0_2, u0_3, u0_4, u0_5, u0_6, y0_0, y0_1, y0_2, y0_3, y0_4, y0_5, y0_6, n0, rfl, t0_0, t0_1, t0_2, t0_3, t0_4, t0_5, t0_6⟩ := open_agg_7 Try.underlying25 (by kernel_rfl) (by kernel_rfl) (hval 0 25 v0 rfl rfl) h0
  obtain ⟨a0_0, e0_0, _, w0_0⟩ := DataW.trod_int Try.underlying22 t0_0
  simp only [List.cons.injEq, and_true] at e0_0
  subst e0_0
  have b0_0 := bounds_u64 w0_0
  obtain ⟨a0_1, e0_1, _, w0_1⟩ := DataW.trod_int Try.underlying22 t0_1
  simp only [List.cons.injEq, and_true] at e0_1
  subst e0_1
  have b0_1 := bounds_u64 w0_1
  obtain ⟨a0_2, e0_2, _, w0_2⟩ := DataW.trod_int Try.underlying22 t0_2
  simp only [List.cons.injEq, and_true] at e0_2
  subst e0_2
  have b0_2 := bounds_u64 w0_2
  obtain ⟨a0_3, e0_3, _, w0_3⟩ := DataW.trod_int Try.underlying22 t0_3
  simp only [List.cons.injEq, and_true] at e0_3
  subst e0_3
  have b0_3 := bounds_u64 w0_3
  obtain ⟨a0_4, e0_4, _, w0_4⟩ := DataW.trod_int Try.underlying22 t0_4
  simp only [List.cons.injEq, and_true] at e0_4
  subst e0_4
  have b0_4 := bounds_u64 w0_4
  obtain ⟨a0_5, e0_5, _, w0_5⟩ := DataW.trod_int Try.underlying22 t0_5
  simp only [List.cons.injEq, and_true] at e0_5
  subst e0_5
  have b0_5 := bounds_u64 w0_5
  obtain ⟨a0_6, len0_6, cap0_6, l0_6, rfl, r0_6⟩ := rdB_any Try.underlying23 Try.underlying5 (by kernel_rfl) t0_6
  obtain ⟨a1, rfl, rfl, rfl, w1⟩ := open_int Try.underlying3 (hval 1 3 v1 rfl rfl) h1
  have b1 := bounds_i64 w1
  clear hA0 hval0
  refine (objback_law a0_0 a0_1 a0_2 a0_3 a0_4 a0_5 a1 a0_6 len0_6 cap0_6 l0_6 W r0_6 b0_0 b0_1 b0_2 b0_3 b0_4 b0_5).mono fun e W' ⟨he, bel⟩ => ?_
  subst he
  exact ⟨_, rfl, _, _, _, [], _, [], hW', trodAll_mk1 (shut_bool Try.underlying4 _), (trodAll_cons_mk (Below.trod laidOut (by kernel_rfl) (of_decide_eq_true (by kernel_rfl)) k0 bel lt0) (trodAll_cons_mk (shut_int Try.underlying3 w1) trodAll_mk0)), rfl, bel.frame _, fun h => by cases h⟩

theorem over : Rows.objBackRow.holds Try.pinned (OpenSpec.ofChange Rows.objBackSpec) :=
  OpenClaim.holds_of_wide 7 Try.f7 rfl rfl rfl rfl rfl rfl rfl ⟨rfl, rfl, rfl, rfl, rfl⟩ rfl rfl rfl rfl rfl (by kernel_rfl) Try.func7 (by kernel_rfl)
    (of_decide_eq_true (by kernel_rfl)) (by unfold Func.isWrapper; first | (rw [if_pos (by decide +kernel)]; kernel_rfl) | (rw [if_neg (by decide +kernel)]; exact ⟨rfl, rfl⟩))
    (fun os started H enc _ => lifted os started H enc)

theorem proved : Rows.ObjBackSaid := over
#print axioms proved
end Go.Proofs.Ytfhpdhfhahbfnaa.objBack
