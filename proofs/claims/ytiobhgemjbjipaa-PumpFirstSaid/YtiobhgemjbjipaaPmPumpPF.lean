/- The law PumpFirst beside leavers: it answers true. Conditions stand as premises. -/
import Derived.Test.YtiobhgemjbjipaaPmPumpPG
set_option linter.unusedSimpArgs false
set_option linter.unusedVariables false
namespace Go.Proofs.Ytiobhgemjbjipaa
open Go.Conc Go.RowKit Go.Conc.Lib
theorem nm_first : (Try.f14.name == "runtime.NumGoroutine") = false := by kernel_rfl
theorem nm_number : (Try.f13.name == "runtime.NumGoroutine") = false := by kernel_rfl
theorem run_max_op {P : Program} {o : Oper} {ac : Act} {w : World} {u v : Int} (s x : Operand) (t : TypeId) (ho : o.op = .call { callee := .builtin .max, args := #[s, x], argTypes := #[t, t] }) (hs : ac.eval s = .int .i64 u) (hx : ac.eval x = .int .i64 v) :
    (execOp ac.eval o).run P w = .ok (.value (.int .i64 (max u v))) w ∧ (execOp ac.eval o).events P w #[] = #[] := by
  have e : (if v > u then v else u) = max u v := by split <;> omega
  unfold execOp
  constructor
  · simp only [ho, resolve, invoke, builtin, Sem.run_bind, Sem.run_pure, Result.andThen_ok, List.map_toArray, List.map_cons, List.map_nil, hs, hx, Builtin.max_, List.foldlM_cons, List.foldlM_nil, Builtin.max2, e]
  · simp [ho, resolve, invoke, builtin, hs, hx, Builtin.max_, Builtin.max2]
theorem run_min_op {P : Program} {o : Oper} {ac : Act} {w : World} {u v : Int} (s x : Operand) (t : TypeId) (ho : o.op = .call { callee := .builtin .min, args := #[s, x], argTypes := #[t, t] }) (hs : ac.eval s = .int .i64 u) (hx : ac.eval x = .int .i64 v) :
    (execOp ac.eval o).run P w = .ok (.value (.int .i64 (min u v))) w ∧ (execOp ac.eval o).events P w #[] = #[] := by
  have e : (if v < u then v else u) = min u v := by split <;> omega
  unfold execOp
  constructor
  · simp only [ho, resolve, invoke, builtin, Sem.run_bind, Sem.run_pure, Result.andThen_ok, List.map_toArray, List.map_cons, List.map_nil, hs, hx, Builtin.min_, List.foldlM_cons, List.foldlM_nil, Builtin.min2, e]
  · simp [ho, resolve, invoke, builtin, hs, hx, Builtin.min_, Builtin.min2]
theorem Ok.max_op {P : Program} {Post : Value → World → Prop} {Old : Nat → Prop} {m : Nat} {b : Frame} {ac : Act} {k : List Item} {cs : List Frame} {w : World} {ops : Array Oper} {i : Nat} {rest : List Nat} {o : Oper} {u v : Int} (s x : Operand) (t : TypeId) (h1 : ops[i]? = some o) (hw : Region.wanted o (yielded ops ac.tmps) = true) (hk : b.kind ≠ .early)
    (ho : o.op = .call { callee := .builtin .max, args := #[s, x], argTypes := #[t, t] }) (hs : ac.eval s = .int .i64 u) (hx : ac.eval x = .int .i64 v) (h : Ok P Post Old m (G (b.at (ac.put o.dst (.int .i64 (max u v))) (.inRegion ops rest :: k)) cs) w) : Ok P Post Old m (G (b.at ac (.inRegion ops (i :: rest) :: k)) cs) w := by
  refine Ok.opv h1 hw hk fun w₁ h₁ => ⟨_, w₁, (run_max_op s x t ho hs hx).1, Nat.le_refl _, fun e he => ?_, h.rel h₁⟩
  rw [(run_max_op s x t ho hs hx).2] at he
  simp at he
theorem Ok.min_op {P : Program} {Post : Value → World → Prop} {Old : Nat → Prop} {m : Nat} {b : Frame} {ac : Act} {k : List Item} {cs : List Frame} {w : World} {ops : Array Oper} {i : Nat} {rest : List Nat} {o : Oper} {u v : Int} (s x : Operand) (t : TypeId) (h1 : ops[i]? = some o) (hw : Region.wanted o (yielded ops ac.tmps) = true) (hk : b.kind ≠ .early)
    (ho : o.op = .call { callee := .builtin .min, args := #[s, x], argTypes := #[t, t] }) (hs : ac.eval s = .int .i64 u) (hx : ac.eval x = .int .i64 v) (h : Ok P Post Old m (G (b.at (ac.put o.dst (.int .i64 (min u v))) (.inRegion ops rest :: k)) cs) w) : Ok P Post Old m (G (b.at ac (.inRegion ops (i :: rest) :: k)) cs) w := by
  refine Ok.opv h1 hw hk fun w₁ h₁ => ⟨_, w₁, (run_min_op s x t ho hs hx).1, Nat.le_refl _, fun e he => ?_, h.rel h₁⟩
  rw [(run_min_op s x t ho hs hx).2] at he
  simp at he
variable {W : World} {m : Nat}
noncomputable def bodyPF : Code := (Try.f5).body.getD .skip
set_option maxRecDepth 100000 in
set_option maxHeartbeats 8000000 in
theorem pumpfirst_ok {a : Option Addr} {n c : Nat} {x : Int} {L : List (List (List Int))} (hR : R3 NoB W (.slice a n c) L) (hx : -9223372036854775808 ≤ x ∧ x ≤ 9223372036854775807) :
    Ok Try.prog (Told W) NoB 1 (G ((base 5).at ⟨#[.slice a n c, .int .i64 x, undef, undef, undef, undef, undef, undef, undef, undef, undef, undef, undef, undef, undef, undef, undef, undef, undef, undef, undef, undef, undef, undef, undef, undef, undef, undef, undef, undef, undef, undef, undef, undef, undef, undef, undef, undef, undef, undef, undef, undef, undef, undef, undef, undef, undef, undef, undef, undef, undef, undef, undef, undef, undef, undef, undef, undef, undef, undef, undef, undef, undef, undef, undef, undef, undef, undef, undef], []⟩ [.code bodyPF]) []) W := by
  have hold0 : ∀ b, NoB b → b < W.heap.size := fun b h => h.elim
  simp only [bodyPF, Try.f5, Option.getD_some]
  refine Ok.step rfl (fun _ h₁ => ?_)
  obtain ⟨d, rfl⟩ := h₁
  rw [stepG_seq]
  simp only [goes_go]
  refine ⟨ok_none _, Ok.at ?_⟩
  clear d
  refine Ok.step rfl (fun _ h₁ => ?_)
  obtain ⟨d, rfl⟩ := h₁
  rw [stepG_region]
  simp only [goes_go, List.size_toArray, List.length_cons, List.length_nil, Nat.reduceAdd, Nat.zero_add, List.range, List.range.loop]
  refine ⟨ok_none _, Ok.at ?_⟩
  clear d
  refine Ok.step rfl (fun _ h₁ => ?_)
  obtain ⟨d, rfl⟩ := h₁
  refine goes_oper_k rfl rfl (by decide) (fun K hK => ?_)
  go_simp
  refine hK _ _ ⟨⟨Nat.le_refl _, fun e he => ?_⟩, Ok.at ?_⟩
  · have hm := mem_listed he
    simp [go_sem] at hm
  clear hK K d
  refine Ok.step rfl (fun _ h₁ => ?_)
  obtain ⟨d, rfl⟩ := h₁
  rw [stepG_region_end]
  simp only [goes_go]
  refine ⟨ok_none _, Ok.at ?_⟩
  clear d
  refine Ok.step rfl (fun _ h₁ => ?_)
  obtain ⟨d, rfl⟩ := h₁
  rw [stepG_seq]
  simp only [goes_go]
  refine ⟨ok_none _, Ok.at ?_⟩
  clear d
  refine Ok.step rfl (fun _ h₁ => ?_)
  obtain ⟨d, rfl⟩ := h₁
  rw [stepG_region]
  simp only [goes_go, List.size_toArray, List.length_cons, List.length_nil, Nat.reduceAdd, Nat.zero_add, List.range, List.range.loop]
  refine ⟨ok_none _, Ok.at ?_⟩
  clear d
  refine Ok.step rfl (fun _ h₁ => ?_)
  obtain ⟨d, rfl⟩ := h₁
  refine goes_call rfl rfl (by decide) rfl Try.func7 nm_first1 rfl ⟨ok_none _, Ok.at ?_⟩
  clear d
  walk_nrmf Try.f7
  refine first1_ok hold0 (by omega) (fun Old1 w1 e1 hold1 => ?_)
  walk_nrm
  refine Ok.step rfl (fun _ h₁ => ?_)
  obtain ⟨d, rfl⟩ := h₁
  refine goes_oper_k rfl rfl (by decide) (fun K hK => ?_)
  go_simp
  refine hK _ _ ⟨⟨Nat.le_refl _, fun e he => ?_⟩, Ok.at ?_⟩
  · have hm := mem_listed he
    simp [go_sem] at hm
  clear hK K d
  refine Ok.step rfl (fun _ h₁ => ?_)
  obtain ⟨d, rfl⟩ := h₁
  rw [stepG_region_end]
  simp only [goes_go]
  refine ⟨ok_none _, Ok.at ?_⟩
  clear d
  refine Ok.step rfl (fun _ h₁ => ?_)
  obtain ⟨d, rfl⟩ := h₁
  rw [stepG_seq]
  simp only [goes_go]
  refine ⟨ok_none _, Ok.at ?_⟩
  clear d
  refine Ok.step rfl (fun _ h₁ => ?_)
  obtain ⟨d, rfl⟩ := h₁
  rw [stepG_seq]
  simp only [goes_go]
  refine ⟨ok_none _, Ok.at ?_⟩
  clear d
  refine Ok.step rfl (fun _ h₁ => ?_)
  obtain ⟨d, rfl⟩ := h₁
  rw [stepG_region]
  simp only [goes_go, List.size_toArray, List.length_cons, List.length_nil, Nat.reduceAdd, Nat.zero_add, List.range, List.range.loop]
  refine ⟨ok_none _, Ok.at ?_⟩
  clear d
  refine Ok.step rfl (fun _ h₁ => ?_)
  obtain ⟨d, rfl⟩ := h₁
  refine goes_oper_k rfl rfl (by decide) (fun K hK => ?_)
  go_simp
  refine hK _ _ ⟨⟨Nat.le_refl _, fun e he => ?_⟩, Ok.at ?_⟩
  · have hm := mem_listed he
    simp [go_sem] at hm
  clear hK K d
  refine Ok.step rfl (fun _ h₁ => ?_)
  obtain ⟨d, rfl⟩ := h₁
  refine goes_oper_k rfl rfl (by decide) (fun K hK => ?_)
  go_simp
  refine hK _ _ ⟨⟨Nat.le_refl _, fun e he => ?_⟩, Ok.at ?_⟩
  · have hm := mem_listed he
    simp [go_sem] at hm
  clear hK K d
  refine Ok.step rfl (fun _ h₁ => ?_)
  obtain ⟨d, rfl⟩ := h₁
  rw [stepG_region_end]
  simp only [goes_go]
  refine ⟨ok_none _, Ok.at ?_⟩
  clear d
  refine Ok.step rfl (fun _ h₁ => ?_)
  obtain ⟨d, rfl⟩ := h₁
  rw [stepG_cond (t := false) rfl]
  simp only [goes_go, if_true, if_false, Bool.false_eq_true, ↓reduceIte]
  refine ⟨ok_none _, Ok.at ?_⟩
  clear d
  refine Ok.step rfl (fun _ h₁ => ?_)
  obtain ⟨d, rfl⟩ := h₁
  rw [stepG_skip]
  simp only [goes_go]
  refine ⟨ok_none _, Ok.at ?_⟩
  clear d
  refine Ok.step rfl (fun _ h₁ => ?_)
  obtain ⟨d, rfl⟩ := h₁
  rw [stepG_seq]
  simp only [goes_go]
  refine ⟨ok_none _, Ok.at ?_⟩
  clear d
  refine Ok.step rfl (fun _ h₁ => ?_)
  obtain ⟨d, rfl⟩ := h₁
  rw [stepG_seq]
  simp only [goes_go]
  refine ⟨ok_none _, Ok.at ?_⟩
  clear d
  refine Ok.step rfl (fun _ h₁ => ?_)
  obtain ⟨d, rfl⟩ := h₁
  rw [stepG_region]
  simp only [goes_go, List.size_toArray, List.length_cons, List.length_nil, Nat.reduceAdd, Nat.zero_add, List.range, List.range.loop]
  refine ⟨ok_none _, Ok.at ?_⟩
  clear d
  refine Ok.step rfl (fun _ h₁ => ?_)
  obtain ⟨d, rfl⟩ := h₁
  refine goes_oper_k rfl rfl (by decide) (fun K hK => ?_)
  go_simp
  refine hK _ _ ⟨⟨Nat.le_refl _, fun e he => ?_⟩, Ok.at ?_⟩
  · have hm := mem_listed he
    simp [go_sem] at hm
  clear hK K d
  refine Ok.step rfl (fun _ h₁ => ?_)
  obtain ⟨d, rfl⟩ := h₁
  refine goes_call rfl rfl (by decide) rfl Try.func8 nm_light rfl ⟨ok_none _, Ok.at ?_⟩
  clear d
  walk_nrmf Try.f8
  refine light_ok (hR.ext e1) (fun t ht => ?_)
  cases t
  ·
    walk_nrm
    refine Ok.step rfl (fun _ h₁ => ?_)
    obtain ⟨d, rfl⟩ := h₁
    refine goes_oper_k rfl rfl (by decide) (fun K hK => ?_)
    go_simp
    refine hK _ _ ⟨⟨Nat.le_refl _, fun e he => ?_⟩, Ok.at ?_⟩
    · have hm := mem_listed he
      simp [go_sem] at hm
    clear hK K d
    refine Ok.step rfl (fun _ h₁ => ?_)
    obtain ⟨d, rfl⟩ := h₁
    rw [stepG_region_end]
    simp only [goes_go]
    refine ⟨ok_none _, Ok.at ?_⟩
    clear d
    refine Ok.step rfl (fun _ h₁ => ?_)
    obtain ⟨d, rfl⟩ := h₁
    rw [stepG_cond (t := true) rfl]
    simp only [goes_go, if_true, if_false, Bool.false_eq_true, ↓reduceIte]
    refine ⟨ok_none _, Ok.at ?_⟩
    clear d
    refine Ok.step rfl (fun _ h₁ => ?_)
    obtain ⟨d, rfl⟩ := h₁
    rw [stepG_seq]
    simp only [goes_go]
    refine ⟨ok_none _, Ok.at ?_⟩
    clear d
    refine Ok.step rfl (fun _ h₁ => ?_)
    obtain ⟨d, rfl⟩ := h₁
    rw [stepG_region]
    simp only [goes_go, List.size_toArray, List.length_cons, List.length_nil, Nat.reduceAdd, Nat.zero_add, List.range, List.range.loop]
    refine ⟨ok_none _, Ok.at ?_⟩
    clear d
    refine Ok.step rfl (fun _ h₁ => ?_)
    obtain ⟨d, rfl⟩ := h₁
    refine goes_oper_k rfl rfl (by decide) (fun K hK => ?_)
    go_simp
    refine hK _ _ ⟨⟨Nat.le_refl _, fun e he => ?_⟩, Ok.at ?_⟩
    · have hm := mem_listed he
      simp [go_sem] at hm
    clear hK K d
    refine Ok.step rfl (fun _ h₁ => ?_)
    obtain ⟨d, rfl⟩ := h₁
    refine goes_oper_k rfl rfl (by decide) (fun K hK => ?_)
    go_simp
    refine hK _ _ ⟨⟨Nat.le_refl _, fun e he => ?_⟩, Ok.at ?_⟩
    · have hm := mem_listed he
      simp [go_sem] at hm
    clear hK K d
    refine Ok.step rfl (fun _ h₁ => ?_)
    obtain ⟨d, rfl⟩ := h₁
    rw [stepG_region_end]
    simp only [goes_go]
    refine ⟨ok_none _, Ok.at ?_⟩
    clear d
    refine Ok.step rfl (fun _ h₁ => ?_)
    obtain ⟨d, rfl⟩ := h₁
    rw [stepG_ret']
    simp only [goes_go]
    refine ⟨ok_none _, Ok.at ?_⟩
    clear d
    exact Ok.top (fn := Try.f5) Try.func5 (by kernel_rfl) rfl (v := .bool true) (resultsC_tmp (fn := Try.f5) (t := 4) rfl _) (fun d => ⟨rfl, _, (e1).at d⟩)
  ·
    have hL := ht.1 rfl
    have htl := tl_le hL
    obtain ⟨T, hT⟩ : ∃ T, T = tl L := ⟨_, rfl⟩
    rw [← hT] at htl
    have HT := Lib.hid hT
    clear hT ht
    walk_nrm
    refine Ok.step rfl (fun _ h₁ => ?_)
    obtain ⟨d, rfl⟩ := h₁
    refine goes_oper_k rfl rfl (by decide) (fun K hK => ?_)
    go_simp
    refine hK _ _ ⟨⟨Nat.le_refl _, fun e he => ?_⟩, Ok.at ?_⟩
    · have hm := mem_listed he
      simp [go_sem] at hm
    clear hK K d
    refine Ok.step rfl (fun _ h₁ => ?_)
    obtain ⟨d, rfl⟩ := h₁
    rw [stepG_region_end]
    simp only [goes_go]
    refine ⟨ok_none _, Ok.at ?_⟩
    clear d
    refine Ok.step rfl (fun _ h₁ => ?_)
    obtain ⟨d, rfl⟩ := h₁
    rw [stepG_cond (t := false) rfl]
    simp only [goes_go, if_true, if_false, Bool.false_eq_true, ↓reduceIte]
    refine ⟨ok_none _, Ok.at ?_⟩
    clear d
    refine Ok.step rfl (fun _ h₁ => ?_)
    obtain ⟨d, rfl⟩ := h₁
    rw [stepG_skip]
    simp only [goes_go]
    refine ⟨ok_none _, Ok.at ?_⟩
    clear d
    refine Ok.step rfl (fun _ h₁ => ?_)
    obtain ⟨d, rfl⟩ := h₁
    rw [stepG_seq]
    simp only [goes_go]
    refine ⟨ok_none _, Ok.at ?_⟩
    clear d
    refine Ok.step rfl (fun _ h₁ => ?_)
    obtain ⟨d, rfl⟩ := h₁
    rw [stepG_region]
    simp only [goes_go, List.size_toArray, List.length_cons, List.length_nil, Nat.reduceAdd, Nat.zero_add, List.range, List.range.loop]
    refine ⟨ok_none _, Ok.at ?_⟩
    clear d
    refine Ok.step rfl (fun _ h₁ => ?_)
    obtain ⟨d, rfl⟩ := h₁
    refine goes_oper_k rfl rfl (by decide) (fun K hK => ?_)
    go_simp
    refine hK _ _ ⟨⟨Nat.le_refl _, fun e he => ?_⟩, Ok.at ?_⟩
    · have hm := mem_listed he
      simp [go_sem] at hm
    clear hK K d
    refine Ok.step rfl (fun _ h₁ => ?_)
    obtain ⟨d, rfl⟩ := h₁
    refine goes_call rfl rfl (by decide) rfl Try.func10 nm_total rfl ⟨ok_none _, Ok.at ?_⟩
    clear d
    walk_nrmf Try.f10
    refine total_ok (hR.ext e1) (by have := hL.1; omega) (fun row hr => by have := (hL.2 row hr).1; omega) ?_
    rw [← HT.out]
    have q1 : IntKind.i64.wrap ((T : Int) + 3) = (T : Int) + 3 := by rw [IntKind.wrap_i64]; omega
    walk_nrm
    refine Ok.step rfl (fun _ h₁ => ?_)
    obtain ⟨d, rfl⟩ := h₁
    refine goes_oper_k rfl rfl (by decide) (fun K hK => ?_)
    go_simp
    refine hK _ _ ⟨⟨Nat.le_refl _, fun e he => ?_⟩, Ok.at ?_⟩
    · have hm := mem_listed he
      simp [go_sem] at hm
    clear hK K d
    refine Ok.step rfl (fun _ h₁ => ?_)
    obtain ⟨d, rfl⟩ := h₁
    rw [stepG_region_end]
    simp only [goes_go]
    refine ⟨ok_none _, Ok.at ?_⟩
    clear d
    refine Ok.step rfl (fun _ h₁ => ?_)
    obtain ⟨d, rfl⟩ := h₁
    rw [stepG_seq]
    simp only [goes_go]
    refine ⟨ok_none _, Ok.at ?_⟩
    clear d
    refine Ok.step rfl (fun _ h₁ => ?_)
    obtain ⟨d, rfl⟩ := h₁
    rw [stepG_region]
    simp only [goes_go, List.size_toArray, List.length_cons, List.length_nil, Nat.reduceAdd, Nat.zero_add, List.range, List.range.loop]
    refine ⟨ok_none _, Ok.at ?_⟩
    clear d
    refine Ok.step rfl (fun _ h₁ => ?_)
    obtain ⟨d, rfl⟩ := h₁
    refine goes_oper_k rfl rfl (by decide) (fun K hK => ?_)
    go_simp
    refine hK _ _ ⟨⟨Nat.le_refl _, fun e he => ?_⟩, Ok.at ?_⟩
    · have hm := mem_listed he
      simp [go_sem] at hm
    clear hK K d
    refine Ok.step rfl (fun _ h₁ => ?_)
    obtain ⟨d, rfl⟩ := h₁
    refine goes_oper_k rfl rfl (by decide) (fun K hK => ?_)
    go_simp
    refine hK _ _ ⟨⟨Nat.le_refl _, fun e he => ?_⟩, Ok.at ?_⟩
    · have hm := mem_listed he
      simp [go_sem] at hm
    clear hK K d
    refine Ok.step rfl (fun _ h₁ => ?_)
    obtain ⟨d, rfl⟩ := h₁
    refine goes_oper_k rfl rfl (by decide) (fun K hK => ?_)
    have f0 := q1
    go_simp
    refine hK _ _ ⟨⟨Nat.le_refl _, fun e he => ?_⟩, Ok.at ?_⟩
    · have hm := mem_listed he
      simp [go_sem, f0] at hm
    clear hK K f0 d
    refine Ok.step rfl (fun _ h₁ => ?_)
    obtain ⟨d, rfl⟩ := h₁
    refine goes_call rfl rfl (by decide) rfl Try.func13 nm_number rfl ⟨ok_none _, Ok.at ?_⟩
    clear d
    walk_nrmf Try.f13
    refine number_ok hx (by omega) ?_
    have hnb := numF_ge (x := x) (k := (T : Int) + 3) (by omega)
    obtain ⟨z, hz⟩ : ∃ z, z = numF x ((T : Int) + 3) := ⟨_, rfl⟩
    rw [← hz] at hnb ⊢
    clear hz
    have q2 : IntKind.i64.wrap (z - 1) = z - 1 := by rw [IntKind.wrap_i64]; omega
    have q3 : IntKind.i64.wrap (-1 - (T : Int)) = -1 - (T : Int) := by rw [IntKind.wrap_i64]; omega
    walk_nrm
    refine Ok.step rfl (fun _ h₁ => ?_)
    obtain ⟨d, rfl⟩ := h₁
    refine goes_oper_k rfl rfl (by decide) (fun K hK => ?_)
    have f0 := q2
    go_simp
    refine hK _ _ ⟨⟨Nat.le_refl _, fun e he => ?_⟩, Ok.at ?_⟩
    · have hm := mem_listed he
      simp [go_sem, f0] at hm
    clear hK K f0 d
    refine Ok.step rfl (fun _ h₁ => ?_)
    obtain ⟨d, rfl⟩ := h₁
    refine goes_oper_k rfl rfl (by decide) (fun K hK => ?_)
    go_simp
    refine hK _ _ ⟨⟨Nat.le_refl _, fun e he => ?_⟩, Ok.at ?_⟩
    · have hm := mem_listed he
      simp [go_sem] at hm
    clear hK K d
    refine Ok.step rfl (fun _ h₁ => ?_)
    obtain ⟨d, rfl⟩ := h₁
    rw [stepG_region_end]
    simp only [goes_go]
    refine ⟨ok_none _, Ok.at ?_⟩
    clear d
    refine Ok.step rfl (fun _ h₁ => ?_)
    obtain ⟨d, rfl⟩ := h₁
    rw [stepG_seq]
    simp only [goes_go]
    refine ⟨ok_none _, Ok.at ?_⟩
    clear d
    refine Ok.step rfl (fun _ h₁ => ?_)
    obtain ⟨d, rfl⟩ := h₁
    rw [stepG_region]
    simp only [goes_go, List.size_toArray, List.length_cons, List.length_nil, Nat.reduceAdd, Nat.zero_add, List.range, List.range.loop]
    refine ⟨ok_none _, Ok.at ?_⟩
    clear d
    refine Ok.step rfl (fun _ h₁ => ?_)
    obtain ⟨d, rfl⟩ := h₁
    refine goes_oper_k rfl rfl (by decide) (fun K hK => ?_)
    go_simp
    refine hK _ _ ⟨⟨Nat.le_refl _, fun e he => ?_⟩, Ok.at ?_⟩
    · have hm := mem_listed he
      simp [go_sem] at hm
    clear hK K d
    refine Ok.step rfl (fun _ h₁ => ?_)
    obtain ⟨d, rfl⟩ := h₁
    refine goes_oper_k rfl rfl (by decide) (fun K hK => ?_)
    go_simp
    refine hK _ _ ⟨⟨Nat.le_refl _, fun e he => ?_⟩, Ok.at ?_⟩
    · have hm := mem_listed he
      simp [go_sem] at hm
    clear hK K d
    refine Ok.step rfl (fun _ h₁ => ?_)
    obtain ⟨d, rfl⟩ := h₁
    refine goes_call rfl rfl (by decide) rfl Try.func14 nm_first rfl ⟨ok_none _, Ok.at ?_⟩
    clear d
    walk_nrmf Try.f14
    refine first_ok (nF := x) (hR.ext e1) hL.sm hold1 (by omega) (fun Old2 w2 V1 gl1 e2 hold2 hg1 hmg1 hl1 => ?_)
    rw [← HT.out] at hl1
    obtain ⟨ga1, gc1, rfl, _⟩ := id hg1
    have HL1 := Lib.hid hl1
    clear hl1
    walk_nrm
    refine Ok.step rfl (fun _ h₁ => ?_)
    obtain ⟨d, rfl⟩ := h₁
    refine goes_oper_k rfl rfl (by decide) (fun K hK => ?_)
    go_simp
    refine hK _ _ ⟨⟨Nat.le_refl _, fun e he => ?_⟩, Ok.at ?_⟩
    · have hm := mem_listed he
      simp [go_sem] at hm
    clear hK K d
    refine Ok.step rfl (fun _ h₁ => ?_)
    obtain ⟨d, rfl⟩ := h₁
    refine goes_oper_k rfl rfl (by decide) (fun K hK => ?_)
    go_simp
    refine hK _ _ ⟨⟨Nat.le_refl _, fun e he => ?_⟩, Ok.at ?_⟩
    · have hm := mem_listed he
      simp [go_sem] at hm
    clear hK K d
    refine Ok.step rfl (fun _ h₁ => ?_)
    obtain ⟨d, rfl⟩ := h₁
    refine goes_call rfl rfl (by decide) rfl Try.func14 nm_first rfl ⟨ok_none _, Ok.at ?_⟩
    clear d
    walk_nrmf Try.f14
    refine first_ok (nF := z - 1) (hR.ext (e1.trans e2)) hL.sm hold2 (by omega) (fun Old3 w3 V2 gl2 e3 hold3 hg2 hmg2 hl2 => ?_)
    rw [← HT.out] at hl2
    obtain ⟨ga2, gc2, rfl, _⟩ := id hg2
    have HL2 := Lib.hid hl2
    clear hl2
    walk_nrm
    refine Ok.step rfl (fun _ h₁ => ?_)
    obtain ⟨d, rfl⟩ := h₁
    refine goes_oper_k rfl rfl (by decide) (fun K hK => ?_)
    go_simp
    refine hK _ _ ⟨⟨Nat.le_refl _, fun e he => ?_⟩, Ok.at ?_⟩
    · have hm := mem_listed he
      simp [go_sem] at hm
    clear hK K d
    refine Ok.step rfl (fun _ h₁ => ?_)
    obtain ⟨d, rfl⟩ := h₁
    refine goes_oper_k rfl rfl (by decide) (fun K hK => ?_)
    go_simp
    refine hK _ _ ⟨⟨Nat.le_refl _, fun e he => ?_⟩, Ok.at ?_⟩
    · have hm := mem_listed he
      simp [go_sem] at hm
    clear hK K d
    refine Ok.step rfl (fun _ h₁ => ?_)
    obtain ⟨d, rfl⟩ := h₁
    refine goes_oper_k rfl rfl (by decide) (fun K hK => ?_)
    have f0 := q3
    go_simp
    refine hK _ _ ⟨⟨Nat.le_refl _, fun e he => ?_⟩, Ok.at ?_⟩
    · have hm := mem_listed he
      simp [go_sem, f0] at hm
    clear hK K f0 d
    refine Ok.step rfl (fun _ h₁ => ?_)
    obtain ⟨d, rfl⟩ := h₁
    refine goes_call rfl rfl (by decide) rfl Try.func14 nm_first rfl ⟨ok_none _, Ok.at ?_⟩
    clear d
    walk_nrmf Try.f14
    refine first_ok (nF := -1 - (T : Int)) (hR.ext (e1.trans (e2.trans e3))) hL.sm hold3 (by omega) (fun Old4 w4 V3 gl3 e4 hold4 hg3 hmg3 hl3 => ?_)
    rw [← HT.out] at hl3
    obtain ⟨ga3, gc3, rfl, _⟩ := id hg3
    have HL3 := Lib.hid hl3
    clear hl3
    walk_nrm
    refine Ok.step rfl (fun _ h₁ => ?_)
    obtain ⟨d, rfl⟩ := h₁
    refine goes_oper_k rfl rfl (by decide) (fun K hK => ?_)
    go_simp
    refine hK _ _ ⟨⟨Nat.le_refl _, fun e he => ?_⟩, Ok.at ?_⟩
    · have hm := mem_listed he
      simp [go_sem] at hm
    clear hK K d
    refine Ok.step rfl (fun _ h₁ => ?_)
    obtain ⟨d, rfl⟩ := h₁
    refine goes_oper_k rfl rfl (by decide) (fun K hK => ?_)
    go_simp
    refine hK _ _ ⟨⟨Nat.le_refl _, fun e he => ?_⟩, Ok.at ?_⟩
    · have hm := mem_listed he
      simp [go_sem] at hm
    clear hK K d
    refine Ok.step rfl (fun _ h₁ => ?_)
    obtain ⟨d, rfl⟩ := h₁
    refine goes_oper_k rfl rfl (by decide) (fun K hK => ?_)
    go_simp
    refine hK _ _ ⟨⟨Nat.le_refl _, fun e he => ?_⟩, Ok.at ?_⟩
    · have hm := mem_listed he
      simp [go_sem] at hm
    clear hK K d
    refine Ok.step rfl (fun _ h₁ => ?_)
    obtain ⟨d, rfl⟩ := h₁
    rw [stepG_region_end]
    simp only [goes_go]
    refine ⟨ok_none _, Ok.at ?_⟩
    clear d
    refine Ok.step rfl (fun _ h₁ => ?_)
    obtain ⟨d, rfl⟩ := h₁
    rw [stepG_seq]
    simp only [goes_go]
    refine ⟨ok_none _, Ok.at ?_⟩
    clear d
    refine Ok.step rfl (fun _ h₁ => ?_)
    obtain ⟨d, rfl⟩ := h₁
    rw [stepG_region]
    simp only [goes_go, List.size_toArray, List.length_cons, List.length_nil, Nat.reduceAdd, Nat.zero_add, List.range, List.range.loop]
    refine ⟨ok_none _, Ok.at ?_⟩
    clear d
    refine Ok.step rfl (fun _ h₁ => ?_)
    obtain ⟨d, rfl⟩ := h₁
    refine goes_oper_k rfl rfl (by decide) (fun K hK => ?_)
    go_simp
    refine hK _ _ ⟨⟨Nat.le_refl _, fun e he => ?_⟩, Ok.at ?_⟩
    · have hm := mem_listed he
      simp [go_sem] at hm
    clear hK K d
    refine Ok.step rfl (fun _ h₁ => ?_)
    obtain ⟨d, rfl⟩ := h₁
    refine goes_oper_k rfl rfl (by decide) (fun K hK => ?_)
    go_simp
    refine hK _ _ ⟨⟨Nat.le_refl _, fun e he => ?_⟩, Ok.at ?_⟩
    · have hm := mem_listed he
      simp [go_sem] at hm
    clear hK K d
    refine Ok.step rfl (fun _ h₁ => ?_)
    obtain ⟨d, rfl⟩ := h₁
    refine goes_oper_k rfl rfl (by decide) (fun K hK => ?_)
    go_simp
    refine hK _ _ ⟨⟨Nat.le_refl _, fun e he => ?_⟩, Ok.at ?_⟩
    · have hm := mem_listed he
      simp [go_sem] at hm
    clear hK K d
    refine Ok.step rfl (fun _ h₁ => ?_)
    obtain ⟨d, rfl⟩ := h₁
    refine goes_oper_k rfl rfl (by decide) (fun K hK => ?_)
    go_simp
    refine hK _ _ ⟨⟨Nat.le_refl _, fun e he => ?_⟩, Ok.at ?_⟩
    · have hm := mem_listed he
      simp [go_sem] at hm
    clear hK K d
    refine Ok.step rfl (fun _ h₁ => ?_)
    obtain ⟨d, rfl⟩ := h₁
    refine goes_oper_k rfl rfl (by decide) (fun K hK => ?_)
    go_simp
    refine hK _ _ ⟨⟨Nat.le_refl _, fun e he => ?_⟩, Ok.at ?_⟩
    · have hm := mem_listed he
      simp [go_sem] at hm
    clear hK K d
    refine Ok.max_op (.tmp 39) (.const (.int .i64 0)) 3 rfl rfl (by decide) rfl (show _ = Value.int .i64 (x) from rfl) (show _ = Value.int .i64 (0) from rfl) ?_
    walk_nrm
    refine Ok.step rfl (fun _ h₁ => ?_)
    obtain ⟨d, rfl⟩ := h₁
    refine goes_oper_k rfl rfl (by decide) (fun K hK => ?_)
    go_simp
    refine hK _ _ ⟨⟨Nat.le_refl _, fun e he => ?_⟩, Ok.at ?_⟩
    · have hm := mem_listed he
      simp [go_sem] at hm
    clear hK K d
    refine Ok.min_op (.tmp 40) (.tmp 41) 3 rfl rfl (by decide) rfl (show _ = Value.int .i64 (max x 0) from rfl) (show _ = Value.int .i64 ((T : Int)) from rfl) ?_
    walk_nrm
    have hq1 : ((gl1.length : Int) == min (max (x) 0) (T : Int)) = true := by rw [HL1.out]; exact beq_self_eq_true _
    refine Ok.step rfl (fun _ h₁ => ?_)
    obtain ⟨d, rfl⟩ := h₁
    refine goes_oper_k rfl rfl (by decide) (fun K hK => ?_)
    have f0 := hq1
    go_simp
    refine hK _ _ ⟨⟨Nat.le_refl _, fun e he => ?_⟩, Ok.at ?_⟩
    · have hm := mem_listed he
      simp [go_sem, f0] at hm
    clear hK K f0 d
    refine Ok.step rfl (fun _ h₁ => ?_)
    obtain ⟨d, rfl⟩ := h₁
    refine goes_oper_k rfl rfl (by decide) (fun K hK => ?_)
    go_simp
    refine hK _ _ ⟨⟨Nat.le_refl _, fun e he => ?_⟩, Ok.at ?_⟩
    · have hm := mem_listed he
      simp [go_sem] at hm
    clear hK K d
    refine Ok.step rfl (fun _ h₁ => ?_)
    obtain ⟨d, rfl⟩ := h₁
    refine goes_oper_k rfl rfl (by decide) (fun K hK => ?_)
    go_simp
    refine hK _ _ ⟨⟨Nat.le_refl _, fun e he => ?_⟩, Ok.at ?_⟩
    · have hm := mem_listed he
      simp [go_sem] at hm
    clear hK K d
    refine Ok.step rfl (fun _ h₁ => ?_)
    obtain ⟨d, rfl⟩ := h₁
    refine goes_oper_k rfl rfl (by decide) (fun K hK => ?_)
    go_simp
    refine hK _ _ ⟨⟨Nat.le_refl _, fun e he => ?_⟩, Ok.at ?_⟩
    · have hm := mem_listed he
      simp [go_sem] at hm
    clear hK K d
    refine Ok.step rfl (fun _ h₁ => ?_)
    obtain ⟨d, rfl⟩ := h₁
    refine goes_oper_k rfl rfl (by decide) (fun K hK => ?_)
    go_simp
    refine hK _ _ ⟨⟨Nat.le_refl _, fun e he => ?_⟩, Ok.at ?_⟩
    · have hm := mem_listed he
      simp [go_sem] at hm
    clear hK K d
    refine Ok.step rfl (fun _ h₁ => ?_)
    obtain ⟨d, rfl⟩ := h₁
    refine goes_call rfl rfl (by decide) rfl Try.func11 nm_fronts rfl ⟨ok_none _, Ok.at ?_⟩
    clear d
    walk_nrmf Try.f11
    refine fronts_ok (hg1.ext (e3.trans e4)) (hR.ext (e1.trans (e2.trans (e3.trans e4)))) hmg1 (by have := hmg1.le; have := HT.out; omega) (by have := hL.1; omega) (fun row hr => by have := (hL.2 row hr).1; omega) hold4 (fun w5 e5 => ?_)
    walk_nrm
    refine Ok.step rfl (fun _ h₁ => ?_)
    obtain ⟨d, rfl⟩ := h₁
    refine goes_oper_k rfl rfl (by decide) (fun K hK => ?_)
    go_simp
    refine hK _ _ ⟨⟨Nat.le_refl _, fun e he => ?_⟩, Ok.at ?_⟩
    · have hm := mem_listed he
      simp [go_sem] at hm
    clear hK K d
    refine Ok.step rfl (fun _ h₁ => ?_)
    obtain ⟨d, rfl⟩ := h₁
    refine goes_oper_k rfl rfl (by decide) (fun K hK => ?_)
    go_simp
    refine hK _ _ ⟨⟨Nat.le_refl _, fun e he => ?_⟩, Ok.at ?_⟩
    · have hm := mem_listed he
      simp [go_sem] at hm
    clear hK K d
    refine Ok.step rfl (fun _ h₁ => ?_)
    obtain ⟨d, rfl⟩ := h₁
    refine goes_oper_k rfl rfl (by decide) (fun K hK => ?_)
    go_simp
    refine hK _ _ ⟨⟨Nat.le_refl _, fun e he => ?_⟩, Ok.at ?_⟩
    · have hm := mem_listed he
      simp [go_sem] at hm
    clear hK K d
    refine Ok.step rfl (fun _ h₁ => ?_)
    obtain ⟨d, rfl⟩ := h₁
    refine goes_oper_k rfl rfl (by decide) (fun K hK => ?_)
    go_simp
    refine hK _ _ ⟨⟨Nat.le_refl _, fun e he => ?_⟩, Ok.at ?_⟩
    · have hm := mem_listed he
      simp [go_sem] at hm
    clear hK K d
    refine Ok.step rfl (fun _ h₁ => ?_)
    obtain ⟨d, rfl⟩ := h₁
    refine goes_oper_k rfl rfl (by decide) (fun K hK => ?_)
    go_simp
    refine hK _ _ ⟨⟨Nat.le_refl _, fun e he => ?_⟩, Ok.at ?_⟩
    · have hm := mem_listed he
      simp [go_sem] at hm
    clear hK K d
    refine Ok.max_op (.tmp 53) (.const (.int .i64 0)) 3 rfl rfl (by decide) rfl (show _ = Value.int .i64 (z - 1) from rfl) (show _ = Value.int .i64 (0) from rfl) ?_
    walk_nrm
    refine Ok.step rfl (fun _ h₁ => ?_)
    obtain ⟨d, rfl⟩ := h₁
    refine goes_oper_k rfl rfl (by decide) (fun K hK => ?_)
    go_simp
    refine hK _ _ ⟨⟨Nat.le_refl _, fun e he => ?_⟩, Ok.at ?_⟩
    · have hm := mem_listed he
      simp [go_sem] at hm
    clear hK K d
    refine Ok.min_op (.tmp 54) (.tmp 55) 3 rfl rfl (by decide) rfl (show _ = Value.int .i64 (max (z - 1) 0) from rfl) (show _ = Value.int .i64 ((T : Int)) from rfl) ?_
    walk_nrm
    have hq2 : ((gl2.length : Int) == min (max (z - 1) 0) (T : Int)) = true := by rw [HL2.out]; exact beq_self_eq_true _
    refine Ok.step rfl (fun _ h₁ => ?_)
    obtain ⟨d, rfl⟩ := h₁
    refine goes_oper_k rfl rfl (by decide) (fun K hK => ?_)
    have f0 := hq2
    go_simp
    refine hK _ _ ⟨⟨Nat.le_refl _, fun e he => ?_⟩, Ok.at ?_⟩
    · have hm := mem_listed he
      simp [go_sem, f0] at hm
    clear hK K f0 d
    refine Ok.step rfl (fun _ h₁ => ?_)
    obtain ⟨d, rfl⟩ := h₁
    refine goes_oper_k rfl rfl (by decide) (fun K hK => ?_)
    go_simp
    refine hK _ _ ⟨⟨Nat.le_refl _, fun e he => ?_⟩, Ok.at ?_⟩
    · have hm := mem_listed he
      simp [go_sem] at hm
    clear hK K d
    refine Ok.step rfl (fun _ h₁ => ?_)
    obtain ⟨d, rfl⟩ := h₁
    refine goes_oper_k rfl rfl (by decide) (fun K hK => ?_)
    go_simp
    refine hK _ _ ⟨⟨Nat.le_refl _, fun e he => ?_⟩, Ok.at ?_⟩
    · have hm := mem_listed he
      simp [go_sem] at hm
    clear hK K d
    refine Ok.step rfl (fun _ h₁ => ?_)
    obtain ⟨d, rfl⟩ := h₁
    refine goes_oper_k rfl rfl (by decide) (fun K hK => ?_)
    go_simp
    refine hK _ _ ⟨⟨Nat.le_refl _, fun e he => ?_⟩, Ok.at ?_⟩
    · have hm := mem_listed he
      simp [go_sem] at hm
    clear hK K d
    refine Ok.step rfl (fun _ h₁ => ?_)
    obtain ⟨d, rfl⟩ := h₁
    refine goes_oper_k rfl rfl (by decide) (fun K hK => ?_)
    go_simp
    refine hK _ _ ⟨⟨Nat.le_refl _, fun e he => ?_⟩, Ok.at ?_⟩
    · have hm := mem_listed he
      simp [go_sem] at hm
    clear hK K d
    refine Ok.step rfl (fun _ h₁ => ?_)
    obtain ⟨d, rfl⟩ := h₁
    refine goes_call rfl rfl (by decide) rfl Try.func11 nm_fronts rfl ⟨ok_none _, Ok.at ?_⟩
    clear d
    walk_nrmf Try.f11
    refine fronts_ok ((hg2.ext e4).ext e5) (hR.ext (e1.trans (e2.trans (e3.trans (e4.trans e5))))) hmg2 (by have := hmg2.le; have := HT.out; omega) (by have := hL.1; omega) (fun row hr => by have := (hL.2 row hr).1; omega) (fun b hb => Nat.lt_of_lt_of_le (hold4 b hb) e5.size) (fun w6 e6 => ?_)
    walk_nrm
    refine Ok.step rfl (fun _ h₁ => ?_)
    obtain ⟨d, rfl⟩ := h₁
    refine goes_oper_k rfl rfl (by decide) (fun K hK => ?_)
    go_simp
    refine hK _ _ ⟨⟨Nat.le_refl _, fun e he => ?_⟩, Ok.at ?_⟩
    · have hm := mem_listed he
      simp [go_sem] at hm
    clear hK K d
    refine Ok.step rfl (fun _ h₁ => ?_)
    obtain ⟨d, rfl⟩ := h₁
    refine goes_oper_k rfl rfl (by decide) (fun K hK => ?_)
    go_simp
    refine hK _ _ ⟨⟨Nat.le_refl _, fun e he => ?_⟩, Ok.at ?_⟩
    · have hm := mem_listed he
      simp [go_sem] at hm
    clear hK K d
    refine Ok.step rfl (fun _ h₁ => ?_)
    obtain ⟨d, rfl⟩ := h₁
    refine goes_oper_k rfl rfl (by decide) (fun K hK => ?_)
    go_simp
    refine hK _ _ ⟨⟨Nat.le_refl _, fun e he => ?_⟩, Ok.at ?_⟩
    · have hm := mem_listed he
      simp [go_sem] at hm
    clear hK K d
    have hz3 : gl3.length = 0 := by have := HL3.out; omega
    refine Ok.step rfl (fun _ h₁ => ?_)
    obtain ⟨d, rfl⟩ := h₁
    refine goes_oper_k rfl rfl (by decide) (fun K hK => ?_)
    have f0 := hz3
    go_simp
    refine hK _ _ ⟨⟨Nat.le_refl _, fun e he => ?_⟩, Ok.at ?_⟩
    · have hm := mem_listed he
      simp [go_sem, f0] at hm
    clear hK K f0 d
    refine Ok.step rfl (fun _ h₁ => ?_)
    obtain ⟨d, rfl⟩ := h₁
    refine goes_oper_k rfl rfl (by decide) (fun K hK => ?_)
    go_simp
    refine hK _ _ ⟨⟨Nat.le_refl _, fun e he => ?_⟩, Ok.at ?_⟩
    · have hm := mem_listed he
      simp [go_sem] at hm
    clear hK K d
    refine Ok.step rfl (fun _ h₁ => ?_)
    obtain ⟨d, rfl⟩ := h₁
    refine goes_oper_k rfl rfl (by decide) (fun K hK => ?_)
    go_simp
    refine hK _ _ ⟨⟨Nat.le_refl _, fun e he => ?_⟩, Ok.at ?_⟩
    · have hm := mem_listed he
      simp [go_sem] at hm
    clear hK K d
    refine Ok.step rfl (fun _ h₁ => ?_)
    obtain ⟨d, rfl⟩ := h₁
    refine goes_oper_k rfl rfl (by decide) (fun K hK => ?_)
    go_simp
    refine hK _ _ ⟨⟨Nat.le_refl _, fun e he => ?_⟩, Ok.at ?_⟩
    · have hm := mem_listed he
      simp [go_sem] at hm
    clear hK K d
    refine Ok.step rfl (fun _ h₁ => ?_)
    obtain ⟨d, rfl⟩ := h₁
    rw [stepG_region_end]
    simp only [goes_go]
    refine ⟨ok_none _, Ok.at ?_⟩
    clear d
    refine Ok.step rfl (fun _ h₁ => ?_)
    obtain ⟨d, rfl⟩ := h₁
    rw [stepG_ret']
    simp only [goes_go]
    refine ⟨ok_none _, Ok.at ?_⟩
    clear d
    exact Ok.top (fn := Try.f5) Try.func5 (by kernel_rfl) rfl (v := .bool true) (resultsC_tmp (fn := Try.f5) (t := 4) rfl _) (fun d => ⟨rfl, _, (e1.trans (e2.trans (e3.trans (e4.trans (e5.trans e6))))).at d⟩)
theorem pumpfirst_run {a : Option Addr} {n c : Nat} {x : Int} {L : List (List (List Int))} (hR : R3 NoB W (.slice a n c) L) (hx : -9223372036854775808 ≤ x ∧ x ≤ 9223372036854775807) :
    ∃ M last o w' t', runNT Try.prog (M + 1) (solo (G (Frame.enter Try.prog 5 #[.slice a n c, .int .i64 x] .normal) []) W) #[] = (.ended o w', t') ∧ runN Try.prog M (solo (G (Frame.enter Try.prog 5 #[.slice a n c, .int .i64 x] .normal) []) W) = .next last ∧ step Try.prog last = .ended o w' ∧ Conc.Good Try.prog (Told W) last o w' t' := by
  refine run_of_ok (m := 1) (by decide) Try.func5 (rfl : Try.f5.body = some bodyPF) ?_
  simp only [Try.ntmps5, List.size_toArray, List.length_cons, List.length_nil, Nat.reduceAdd, Nat.reduceSub, Array.replicate_succ, Array.replicate_zero, List.push_toArray, List.append_toArray, List.nil_append, List.cons_append]
  exact pumpfirst_ok hR hx
end Go.Proofs.Ytiobhgemjbjipaa
