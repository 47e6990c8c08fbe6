/- sync.WaitGroup under this call's own rely: Wait, by the goroutine that waits. Printed by gen_wg.py. Conditions stand as premises. -/
import Derived.Test.YtiobhgemjbjipaaPmPumpWg2
import Derived.Test.YtiobhgemjbjipaaPmPumpClo
set_option linter.unusedSimpArgs false
set_option linter.unusedVariables false
namespace Go.Proofs.Ytiobhgemjbjipaa
open Go.Conc Go.RowKit Go.Conc.Lib Go.ConcR.Gen Go.ConcN.Gen
open Go.ConcR (KK wgBlock WgAt stA smA rd wr mk DC0)
open Go.ConcN (WgLive st_flag st_waiters)
variable {P : Program} {L : WgLink} {E : PE} {Mine : Nat → Prop} {c : Frame} {cs : List Frame} {qt mT : Nat} {b₀ : Frame} {a₀ : Act} {ops₀ : Array Oper} {i₀ : Nat} {rest₀ : List Nat} {k₀ : List Item}
variable {l : List (Addr × Value)}
def KL (E : PE) (Mine : Nat → Prop) (l : List (Addr × Value)) (w : World) : Prop := KX Mine l w ∧ WgLive E.ty E.Wg w
theorem kl_rely {w w₁ : World} (h : KL E Mine l w) (r : RM E Mine w w₁) : KL E Mine l w₁ := ⟨h.1.rm r, r.live h.2⟩
theorem KX.wg (hMs : ∀ b, Mine b → b ≠ E.Wg) {w : World} (h : KX Mine l w) (a : Addr) (ha : a.block = E.Wg) (v : Value) : KX Mine l (w.setCell a v) := fun p hp => by
  obtain ⟨h1, h2, h3, h4⟩ := h p hp
  have e : (w.setCell a v).heap[p.1.block]? = w.heap[p.1.block]? := (Go.Conc.aside_setCell w a v).block _ (by rw [ha]; exact hMs _ h4)
  exact ⟨(cell_same e).trans h1, (frozen_same e).trans h2, by rw [(Go.Conc.aside_setCell w a v).size]; exact h3, h4⟩
/-- At the head of Wait's loop. -/
def AnchP (L : WgLink) (E : PE) (Mine : Nat → Prop) (l : List (Addr × Value)) (c : Frame) (cs : List Frame) (g : Goroutine) (w : World) : Prop :=
  ∃ T : Array Value, g = G ((base L.wait).at ⟨T, []⟩ [.code (L7 L), .inLoop (L7 L), .inBlock 0]) (c :: cs) ∧ T.size = 84 ∧ T[0]? = some (.pointer (some ⟨E.Wg, 0, none⟩)) ∧ KL E Mine l w
set_option maxRecDepth 100000 in
set_option maxHeartbeats 20000000 in
theorem waitRoundP (H : WgLib P L) (ety : E.ty = L.tWg) (hMs : ∀ b, Mine b → b ≠ E.Wg) (hT : ∀ w, KL E Mine l w → Goes P false (RM E Mine) (DM E Mine) (TShut P E) mT (G (b₀.at (a₀.put ((ops₀[i₀]?).bind (·.dst)) (.tuple #[])) (.inRegion ops₀ rest₀ :: k₀)) cs) w) (g : Goroutine) (w : World) (h : AnchP L E Mine l (b₀.at a₀ (.inRegion ops₀ (i₀ :: rest₀) :: k₀)) cs g w) :
    Goes P false (RM E Mine) DC0 (TLoad P E Mine (AnchP L E Mine l (b₀.at a₀ (.inRegion ops₀ (i₀ :: rest₀) :: k₀)) cs)) 30 g w := by
  lib_facts
  obtain ⟨T, rfl, hT84, t0, hF⟩ := h
  obtain ⟨v0, v1, v2, v3, v4, v5, v6, v7, v8, v9, v10, v11, v12, v13, v14, v15, v16, v17, v18, v19, v20, v21, v22, v23, v24, v25, v26, v27, v28, v29, v30, v31, v32, v33, v34, v35, v36, v37, v38, v39, v40, v41, v42, v43, v44, v45, v46, v47, v48, v49, v50, v51, v52, v53, v54, v55, v56, v57, v58, v59, v60, v61, v62, v63, v64, v65, v66, v67, v68, v69, v70, v71, v72, v73, v74, v75, v76, v77, v78, v79, v80, v81, v82, v83, rfl⟩ := array84 T hT84
  simp only [List.getElem?_toArray, List.getElem?_cons_zero, Option.some.injEq] at t0
  subst t0
  simp only [L7, body_wait, waitFn, Option.getD_some]
  refine Goes.step rfl (fun _ h₁ => ?_)
  replace hF := kl_rely hF h₁
  clear h₁
  rw [stepG_block]
  simp only [goes_go]
  refine ⟨(by first | exact dc0_none (fun e he => by simp at he) | exact ds_none (fun e he => by simp at he) | exact d0_nil (fun e he => by simp at he) | exact dm_nil (fun e he => by simp at he)), ?_⟩
  refine Goes.step rfl (fun _ h₁ => ?_)
  replace hF := kl_rely hF h₁
  clear h₁
  rw [stepG_seq]
  simp only [goes_go]
  refine ⟨(by first | exact dc0_none (fun e he => by simp at he) | exact ds_none (fun e he => by simp at he) | exact d0_nil (fun e he => by simp at he) | exact dm_nil (fun e he => by simp at he)), ?_⟩
  refine Goes.step rfl (fun _ h₁ => ?_)
  replace hF := kl_rely hF h₁
  clear h₁
  rw [stepG_region]
  simp only [goes_go, List.size_toArray, List.length_cons, List.length_nil, Nat.reduceAdd, Nat.zero_add, List.range, List.range.loop]
  refine ⟨(by first | exact dc0_none (fun e he => by simp at he) | exact ds_none (fun e he => by simp at he) | exact d0_nil (fun e he => by simp at he) | exact dm_nil (fun e he => by simp at he)), ?_⟩
  refine Goes.step rfl (fun _ h₁ => ?_)
  replace hF := kl_rely hF h₁
  clear h₁
  refine goes_oper_k rfl rfl (by k_ne) (fun K hK => ?_)
  go_simp
  refine hK _ _ ⟨?_, ?_⟩
  · first | refine dc0_none ?_ | refine ds_none ?_ | refine d0_nil ?_ | refine dm_nil ?_
    intro e he
    have hm := mem_listed he
    simp [go_sem, *] at hm
  clear hK K
  try w_num
  refine Goes.step rfl (fun _ h₁ => ?_)
  replace hF := kl_rely hF h₁
  clear h₁
  refine goes_oper_k rfl rfl (by k_ne) (fun K hK => ?_)
  go_simp
  refine hK _ _ ⟨?_, ?_⟩
  · first | refine dc0_none ?_ | refine ds_none ?_ | refine d0_nil ?_ | refine dm_nil ?_
    intro e he
    have hm := mem_listed he
    simp [go_sem, *] at hm
  clear hK K
  try w_num
  refine Goes.step rfl (fun _ h₁ => ?_)
  replace hF := kl_rely hF h₁
  clear h₁
  refine goes_oper_k rfl rfl (by k_ne) (fun K hK => ?_)
  go_simp
  refine hK _ _ ⟨?_, ?_⟩
  · first | refine dc0_none ?_ | refine ds_none ?_ | refine d0_nil ?_ | refine dm_nil ?_
    intro e he
    have hm := mem_listed he
    simp [go_sem, *] at hm
  clear hK K
  try w_num
  refine Goes.step rfl (fun _ h₁ => ?_)
  replace hF := kl_rely hF h₁
  clear h₁
  refine goes_call rfl rfl (by k_ne) rfl H.f_uLoad (nm_uLoad L) rfl ⟨(by first | exact dc0_none (fun e he => by simp at he) | exact ds_none (fun e he => by simp at he) | exact d0_nil (fun e he => by simp at he) | exact dm_nil (fun e he => by simp at he)), ?_⟩
  walk_nrmf uLoadFn
  refine Goes.step rfl (fun _ h₁ => ?_)
  replace hF := kl_rely hF h₁
  clear h₁
  rw [stepG_seq]
  simp only [goes_go]
  refine ⟨(by first | exact dc0_none (fun e he => by simp at he) | exact ds_none (fun e he => by simp at he) | exact d0_nil (fun e he => by simp at he) | exact dm_nil (fun e he => by simp at he)), ?_⟩
  refine Goes.step rfl (fun _ h₁ => ?_)
  replace hF := kl_rely hF h₁
  clear h₁
  rw [stepG_region]
  simp only [goes_go, List.size_toArray, List.length_cons, List.length_nil, Nat.reduceAdd, Nat.zero_add, List.range, List.range.loop]
  refine ⟨(by first | exact dc0_none (fun e he => by simp at he) | exact ds_none (fun e he => by simp at he) | exact d0_nil (fun e he => by simp at he) | exact dm_nil (fun e he => by simp at he)), ?_⟩
  refine Goes.step rfl (fun _ h₁ => ?_)
  replace hF := kl_rely hF h₁
  clear h₁
  refine goes_oper_k rfl rfl (by k_ne) (fun K hK => ?_)
  go_simp
  refine hK _ _ ⟨?_, ?_⟩
  · first | refine dc0_none ?_ | refine ds_none ?_ | refine d0_nil ?_ | refine dm_nil ?_
    intro e he
    have hm := mem_listed he
    simp [go_sem, *] at hm
  clear hK K
  try w_num
  refine Goes.step rfl (fun _ h₁ => ?_)
  replace hF := kl_rely hF h₁
  clear h₁
  rw [stepG_region_end]
  simp only [goes_go]
  refine ⟨(by first | exact dc0_none (fun e he => by simp at he) | exact ds_none (fun e he => by simp at he) | exact d0_nil (fun e he => by simp at he) | exact dm_nil (fun e he => by simp at he)), ?_⟩
  refine Goes.step rfl (fun _ h₁ => ?_)
  replace hF := kl_rely hF h₁
  clear h₁
  rw [stepG_seq]
  simp only [goes_go]
  refine ⟨(by first | exact dc0_none (fun e he => by simp at he) | exact ds_none (fun e he => by simp at he) | exact d0_nil (fun e he => by simp at he) | exact dm_nil (fun e he => by simp at he)), ?_⟩
  refine Goes.step rfl (fun _ h₁ => ?_)
  replace hF := kl_rely hF h₁
  clear h₁
  rw [stepG_region]
  simp only [goes_go, List.size_toArray, List.length_cons, List.length_nil, Nat.reduceAdd, Nat.zero_add, List.range, List.range.loop]
  refine ⟨(by first | exact dc0_none (fun e he => by simp at he) | exact ds_none (fun e he => by simp at he) | exact d0_nil (fun e he => by simp at he) | exact dm_nil (fun e he => by simp at he)), ?_⟩
  refine Goes.step rfl (fun _ h₁ => ?_)
  replace hF := kl_rely hF h₁
  clear h₁
  refine goes_oper_k rfl rfl (by k_ne) (fun K hK => ?_)
  go_simp
  refine hK _ _ ⟨?_, ?_⟩
  · first | refine dc0_none ?_ | refine ds_none ?_ | refine d0_nil ?_ | refine dm_nil ?_
    intro e he
    have hm := mem_listed he
    simp [go_sem, *] at hm
  clear hK K
  try w_num
  refine Goes.step rfl (fun _ h₁ => ?_)
  replace hF := kl_rely hF h₁
  clear h₁
  refine goes_oper_k rfl rfl (by k_ne) (fun K hK => ?_)
  go_simp
  refine hK _ _ ⟨?_, ?_⟩
  · first | refine dc0_none ?_ | refine ds_none ?_ | refine d0_nil ?_ | refine dm_nil ?_
    intro e he
    have hm := mem_listed he
    simp [go_sem, *] at hm
  clear hK K
  try w_num
  refine Goes.step rfl (fun _ h₁ => ?_)
  replace hF := kl_rely hF h₁
  clear h₁
  refine goes_oper_k rfl rfl (by k_ne) (fun K hK => ?_)
  go_simp
  refine hK _ _ ⟨?_, ?_⟩
  · first | refine dc0_none ?_ | refine ds_none ?_ | refine d0_nil ?_ | refine dm_nil ?_
    intro e he
    have hm := mem_listed he
    simp [go_sem, *] at hm
  clear hK K
  try w_num
  refine Goes.stop (fun w₁ h₁ => ?_)
  replace hF := kl_rely hF h₁
  clear h₁
  refine ⟨rfl, fun v hv hw => ?_⟩
  rcases Nat.eq_zero_or_pos v with rfl | hvp
  · replace hw : WgAt E.ty E.Wg w₁ 0 0 := by simpa using hw
    refine ⟨_, stepG_load_atomic (v := 0) rfl rfl (by k_ne) rfl H.f_loadU64 (x_loadU64_n L) (x_loadU64_b L) (x_loadU64_x L) .u64 (x_loadU64_f L) rfl hw.cellSt, fun _ => ⟨50, ?_⟩, fun h => absurd rfl h⟩
    clear hw
    walk_nrm
    refine Goes.step rfl (fun _ h₁ => ?_)
    replace hF := kl_rely hF h₁
    clear h₁
    refine goes_oper_k rfl rfl (by k_ne) (fun K hK => ?_)
    go_simp
    refine hK _ _ ⟨?_, ?_⟩
    · first | refine dc0_none ?_ | refine ds_none ?_ | refine d0_nil ?_ | refine dm_nil ?_
      intro e he
      have hm := mem_listed he
      simp [go_sem, *] at hm
    clear hK K
    try w_num
    refine Goes.step rfl (fun _ h₁ => ?_)
    replace hF := kl_rely hF h₁
    clear h₁
    rw [stepG_region_end]
    simp only [goes_go]
    refine ⟨(by first | exact dc0_none (fun e he => by simp at he) | exact ds_none (fun e he => by simp at he) | exact d0_nil (fun e he => by simp at he) | exact dm_nil (fun e he => by simp at he)), ?_⟩
    refine Goes.step rfl (fun _ h₁ => ?_)
    replace hF := kl_rely hF h₁
    clear h₁
    rw [stepG_ret']
    simp only [goes_go]
    refine ⟨(by first | exact dc0_none (fun e he => by simp at he) | exact ds_none (fun e he => by simp at he) | exact d0_nil (fun e he => by simp at he) | exact dm_nil (fun e he => by simp at he)), ?_⟩
    refine Goes.step rfl (fun _ h₁ => ?_)
    replace hF := kl_rely hF h₁
    clear h₁
    refine goes_leave1 rfl rfl H.f_uLoad rfl ⟨(by first | exact dc0_none (fun e he => by simp at he) | exact ds_none (fun e he => by simp at he) | exact d0_nil (fun e he => by simp at he) | exact dm_nil (fun e he => by simp at he)), ?_⟩
    walk_nrm
    refine Goes.step rfl (fun _ h₁ => ?_)
    replace hF := kl_rely hF h₁
    clear h₁
    refine goes_oper_k rfl rfl (by k_ne) (fun K hK => ?_)
    go_simp
    refine hK _ _ ⟨?_, ?_⟩
    · first | refine dc0_none ?_ | refine ds_none ?_ | refine d0_nil ?_ | refine dm_nil ?_
      intro e he
      have hm := mem_listed he
      simp [go_sem, *] at hm
    clear hK K
    try w_num
    refine Goes.step rfl (fun _ h₁ => ?_)
    replace hF := kl_rely hF h₁
    clear h₁
    rw [stepG_region_end]
    simp only [goes_go]
    refine ⟨(by first | exact dc0_none (fun e he => by simp at he) | exact ds_none (fun e he => by simp at he) | exact d0_nil (fun e he => by simp at he) | exact dm_nil (fun e he => by simp at he)), ?_⟩
    refine Goes.step rfl (fun _ h₁ => ?_)
    replace hF := kl_rely hF h₁
    clear h₁
    rw [stepG_seq]
    simp only [goes_go]
    refine ⟨(by first | exact dc0_none (fun e he => by simp at he) | exact ds_none (fun e he => by simp at he) | exact d0_nil (fun e he => by simp at he) | exact dm_nil (fun e he => by simp at he)), ?_⟩
    refine Goes.step rfl (fun _ h₁ => ?_)
    replace hF := kl_rely hF h₁
    clear h₁
    rw [stepG_region]
    simp only [goes_go, List.size_toArray, List.length_cons, List.length_nil, Nat.reduceAdd, Nat.zero_add, List.range, List.range.loop]
    refine ⟨(by first | exact dc0_none (fun e he => by simp at he) | exact ds_none (fun e he => by simp at he) | exact d0_nil (fun e he => by simp at he) | exact dm_nil (fun e he => by simp at he)), ?_⟩
    refine Goes.step rfl (fun _ h₁ => ?_)
    replace hF := kl_rely hF h₁
    clear h₁
    refine goes_oper_k rfl rfl (by k_ne) (fun K hK => ?_)
    go_simp
    refine hK _ _ ⟨?_, ?_⟩
    · first | refine dc0_none ?_ | refine ds_none ?_ | refine d0_nil ?_ | refine dm_nil ?_
      intro e he
      have hm := mem_listed he
      simp [go_sem, *] at hm
    clear hK K
    try w_num
    refine Goes.step rfl (fun _ h₁ => ?_)
    replace hF := kl_rely hF h₁
    clear h₁
    refine goes_oper_k rfl rfl (by k_ne) (fun K hK => ?_)
    go_simp
    refine hK _ _ ⟨?_, ?_⟩
    · first | refine dc0_none ?_ | refine ds_none ?_ | refine d0_nil ?_ | refine dm_nil ?_
      intro e he
      have hm := mem_listed he
      simp [go_sem, *] at hm
    clear hK K
    try w_num
    refine Goes.step rfl (fun _ h₁ => ?_)
    replace hF := kl_rely hF h₁
    clear h₁
    refine goes_oper_k rfl rfl (by k_ne) (fun K hK => ?_)
    go_simp
    refine hK _ _ ⟨?_, ?_⟩
    · first | refine dc0_none ?_ | refine ds_none ?_ | refine d0_nil ?_ | refine dm_nil ?_
      intro e he
      have hm := mem_listed he
      simp [go_sem, *] at hm
    clear hK K
    try w_num
    refine Goes.step rfl (fun _ h₁ => ?_)
    replace hF := kl_rely hF h₁
    clear h₁
    refine goes_oper_k rfl rfl (by k_ne) (fun K hK => ?_)
    go_simp
    refine hK _ _ ⟨?_, ?_⟩
    · first | refine dc0_none ?_ | refine ds_none ?_ | refine d0_nil ?_ | refine dm_nil ?_
      intro e he
      have hm := mem_listed he
      simp [go_sem, *] at hm
    clear hK K
    try w_num
    refine Goes.step rfl (fun _ h₁ => ?_)
    replace hF := kl_rely hF h₁
    clear h₁
    rw [stepG_region_end]
    simp only [goes_go]
    refine ⟨(by first | exact dc0_none (fun e he => by simp at he) | exact ds_none (fun e he => by simp at he) | exact d0_nil (fun e he => by simp at he) | exact dm_nil (fun e he => by simp at he)), ?_⟩
    refine Goes.step rfl (fun _ h₁ => ?_)
    replace hF := kl_rely hF h₁
    clear h₁
    rw [stepG_seq]
    simp only [goes_go]
    refine ⟨(by first | exact dc0_none (fun e he => by simp at he) | exact ds_none (fun e he => by simp at he) | exact d0_nil (fun e he => by simp at he) | exact dm_nil (fun e he => by simp at he)), ?_⟩
    refine Goes.step rfl (fun _ h₁ => ?_)
    replace hF := kl_rely hF h₁
    clear h₁
    rw [stepG_region]
    simp only [goes_go, List.size_toArray, List.length_cons, List.length_nil, Nat.reduceAdd, Nat.zero_add, List.range, List.range.loop]
    refine ⟨(by first | exact dc0_none (fun e he => by simp at he) | exact ds_none (fun e he => by simp at he) | exact d0_nil (fun e he => by simp at he) | exact dm_nil (fun e he => by simp at he)), ?_⟩
    refine Goes.step rfl (fun _ h₁ => ?_)
    replace hF := kl_rely hF h₁
    clear h₁
    refine goes_oper_k rfl rfl (by k_ne) (fun K hK => ?_)
    go_simp
    refine hK _ _ ⟨?_, ?_⟩
    · first | refine dc0_none ?_ | refine ds_none ?_ | refine d0_nil ?_ | refine dm_nil ?_
      intro e he
      have hm := mem_listed he
      simp [go_sem, *] at hm
    clear hK K
    try w_num
    refine Goes.step rfl (fun _ h₁ => ?_)
    replace hF := kl_rely hF h₁
    clear h₁
    refine goes_oper_k rfl rfl (by k_ne) (fun K hK => ?_)
    go_simp
    refine hK _ _ ⟨?_, ?_⟩
    · first | refine dc0_none ?_ | refine ds_none ?_ | refine d0_nil ?_ | refine dm_nil ?_
      intro e he
      have hm := mem_listed he
      simp [go_sem, *] at hm
    clear hK K
    try w_num
    refine Goes.step rfl (fun _ h₁ => ?_)
    replace hF := kl_rely hF h₁
    clear h₁
    refine goes_oper_k rfl rfl (by k_ne) (fun K hK => ?_)
    go_simp
    refine hK _ _ ⟨?_, ?_⟩
    · first | refine dc0_none ?_ | refine ds_none ?_ | refine d0_nil ?_ | refine dm_nil ?_
      intro e he
      have hm := mem_listed he
      simp [go_sem, *] at hm
    clear hK K
    try w_num
    refine Goes.step rfl (fun _ h₁ => ?_)
    replace hF := kl_rely hF h₁
    clear h₁
    refine goes_oper_k rfl rfl (by k_ne) (fun K hK => ?_)
    go_simp
    refine hK _ _ ⟨?_, ?_⟩
    · first | refine dc0_none ?_ | refine ds_none ?_ | refine d0_nil ?_ | refine dm_nil ?_
      intro e he
      have hm := mem_listed he
      simp [go_sem, *] at hm
    clear hK K
    try w_num
    refine Goes.step rfl (fun _ h₁ => ?_)
    replace hF := kl_rely hF h₁
    clear h₁
    rw [stepG_region_end]
    simp only [goes_go]
    refine ⟨(by first | exact dc0_none (fun e he => by simp at he) | exact ds_none (fun e he => by simp at he) | exact d0_nil (fun e he => by simp at he) | exact dm_nil (fun e he => by simp at he)), ?_⟩
    refine Goes.step rfl (fun _ h₁ => ?_)
    replace hF := kl_rely hF h₁
    clear h₁
    rw [stepG_seq]
    simp only [goes_go]
    refine ⟨(by first | exact dc0_none (fun e he => by simp at he) | exact ds_none (fun e he => by simp at he) | exact d0_nil (fun e he => by simp at he) | exact dm_nil (fun e he => by simp at he)), ?_⟩
    refine Goes.step rfl (fun _ h₁ => ?_)
    replace hF := kl_rely hF h₁
    clear h₁
    rw [stepG_seq]
    simp only [goes_go]
    refine ⟨(by first | exact dc0_none (fun e he => by simp at he) | exact ds_none (fun e he => by simp at he) | exact d0_nil (fun e he => by simp at he) | exact dm_nil (fun e he => by simp at he)), ?_⟩
    refine Goes.step rfl (fun _ h₁ => ?_)
    replace hF := kl_rely hF h₁
    clear h₁
    rw [stepG_region]
    simp only [goes_go, List.size_toArray, List.length_cons, List.length_nil, Nat.reduceAdd, Nat.zero_add, List.range, List.range.loop]
    refine ⟨(by first | exact dc0_none (fun e he => by simp at he) | exact ds_none (fun e he => by simp at he) | exact d0_nil (fun e he => by simp at he) | exact dm_nil (fun e he => by simp at he)), ?_⟩
    refine Goes.step rfl (fun _ h₁ => ?_)
    replace hF := kl_rely hF h₁
    clear h₁
    refine goes_oper_k rfl rfl (by k_ne) (fun K hK => ?_)
    go_simp
    refine hK _ _ ⟨?_, ?_⟩
    · first | refine dc0_none ?_ | refine ds_none ?_ | refine d0_nil ?_ | refine dm_nil ?_
      intro e he
      have hm := mem_listed he
      simp [go_sem, *] at hm
    clear hK K
    try w_num
    refine Goes.step rfl (fun _ h₁ => ?_)
    replace hF := kl_rely hF h₁
    clear h₁
    refine goes_oper_k rfl rfl (by k_ne) (fun K hK => ?_)
    go_simp
    refine hK _ _ ⟨?_, ?_⟩
    · first | refine dc0_none ?_ | refine ds_none ?_ | refine d0_nil ?_ | refine dm_nil ?_
      intro e he
      have hm := mem_listed he
      simp [go_sem, *] at hm
    clear hK K
    try w_num
    refine Goes.step rfl (fun _ h₁ => ?_)
    replace hF := kl_rely hF h₁
    clear h₁
    rw [stepG_region_end]
    simp only [goes_go]
    refine ⟨(by first | exact dc0_none (fun e he => by simp at he) | exact ds_none (fun e he => by simp at he) | exact d0_nil (fun e he => by simp at he) | exact dm_nil (fun e he => by simp at he)), ?_⟩
    refine Goes.step rfl (fun _ h₁ => ?_)
    replace hF := kl_rely hF h₁
    clear h₁
    rw [stepG_cond (t := true) rfl]
    simp only [goes_go, if_true, if_false, Bool.false_eq_true, ↓reduceIte]
    refine ⟨(by first | exact dc0_none (fun e he => by simp at he) | exact ds_none (fun e he => by simp at he) | exact d0_nil (fun e he => by simp at he) | exact dm_nil (fun e he => by simp at he)), ?_⟩
    refine Goes.step rfl (fun _ h₁ => ?_)
    replace hF := kl_rely hF h₁
    clear h₁
    rw [stepG_seq]
    simp only [goes_go]
    refine ⟨(by first | exact dc0_none (fun e he => by simp at he) | exact ds_none (fun e he => by simp at he) | exact d0_nil (fun e he => by simp at he) | exact dm_nil (fun e he => by simp at he)), ?_⟩
    refine Goes.step rfl (fun _ h₁ => ?_)
    replace hF := kl_rely hF h₁
    clear h₁
    rw [stepG_cond (t := true) rfl]
    simp only [goes_go, if_true, if_false, Bool.false_eq_true, ↓reduceIte]
    refine ⟨(by first | exact dc0_none (fun e he => by simp at he) | exact ds_none (fun e he => by simp at he) | exact d0_nil (fun e he => by simp at he) | exact dm_nil (fun e he => by simp at he)), ?_⟩
    refine Goes.step rfl (fun _ h₁ => ?_)
    replace hF := kl_rely hF h₁
    clear h₁
    rw [stepG_seq]
    simp only [goes_go]
    refine ⟨(by first | exact dc0_none (fun e he => by simp at he) | exact ds_none (fun e he => by simp at he) | exact d0_nil (fun e he => by simp at he) | exact dm_nil (fun e he => by simp at he)), ?_⟩
    refine Goes.step rfl (fun _ h₁ => ?_)
    replace hF := kl_rely hF h₁
    clear h₁
    rw [stepG_region]
    simp only [goes_go, List.size_toArray, List.length_cons, List.length_nil, Nat.reduceAdd, Nat.zero_add, List.range, List.range.loop]
    refine ⟨(by first | exact dc0_none (fun e he => by simp at he) | exact ds_none (fun e he => by simp at he) | exact d0_nil (fun e he => by simp at he) | exact dm_nil (fun e he => by simp at he)), ?_⟩
    refine Goes.stop (fun w₅ h₅ => ?_)
    replace hF := kl_rely hF h₅
    clear h₅
    refine ⟨rfl, _, stepG_mark0 .enable (by simp) rfl rfl (by k_ne) rfl H.f_enable (x_enable_n L) (x_enable_b L) (x_enable_x L) (x_enable_f L), 12, ?_⟩
    walk_nrm
    refine Goes.step rfl (fun _ h₁ => ?_)
    replace hF := kl_rely hF h₁
    clear h₁
    rw [stepG_region_end]
    simp only [goes_go]
    refine ⟨(by first | exact dc0_none (fun e he => by simp at he) | exact ds_none (fun e he => by simp at he) | exact d0_nil (fun e he => by simp at he) | exact dm_nil (fun e he => by simp at he)), ?_⟩
    refine Goes.step rfl (fun _ h₁ => ?_)
    replace hF := kl_rely hF h₁
    clear h₁
    rw [stepG_region]
    simp only [goes_go, List.size_toArray, List.length_cons, List.length_nil, Nat.reduceAdd, Nat.zero_add, List.range, List.range.loop]
    refine ⟨(by first | exact dc0_none (fun e he => by simp at he) | exact ds_none (fun e he => by simp at he) | exact d0_nil (fun e he => by simp at he) | exact dm_nil (fun e he => by simp at he)), ?_⟩
    refine Goes.step rfl (fun _ h₁ => ?_)
    replace hF := kl_rely hF h₁
    clear h₁
    refine goes_oper_k rfl rfl (by k_ne) (fun K hK => ?_)
    go_simp
    refine hK _ _ ⟨?_, ?_⟩
    · first | refine dc0_none ?_ | refine ds_none ?_ | refine d0_nil ?_ | refine dm_nil ?_
      intro e he
      have hm := mem_listed he
      simp [go_sem, *] at hm
    clear hK K
    try w_num
    refine Goes.step rfl (fun _ h₁ => ?_)
    replace hF := kl_rely hF h₁
    clear h₁
    refine goes_oper_k rfl rfl (by k_ne) (fun Kx hKx => ?_)
    have hcv := run_convert_to_unsafe (P := P) H.underlying_tWgP H.underlying_tUP H.room_tWg (WgLive.cell0 hF.2).choose_spec
    have hce := fun es => events_convert_to_unsafe (P := P) H.underlying_tWgP H.underlying_tUP H.room_tWg (WgLive.cell0 hF.2).choose_spec es
    go_simp
    refine hKx _ _ ⟨?_, ?_⟩
    · first | refine dc0_none ?_ | refine ds_none ?_ | refine d0_nil ?_ | refine dm_nil ?_
      intro ex hex
      have hmx := mem_listed hex
      simp [go_sem, hce] at hmx
    clear hKx Kx hcv hce
    refine Goes.stop (fun w₆ h₆ => ?_)
    replace hF := kl_rely hF h₆
    clear h₆
    refine ⟨rfl, _, stepG_markAt .acquire (by simp) rfl rfl (by k_ne) rfl H.f_acquire (x_acquire_n L) (x_acquire_b L) (x_acquire_x L) (x_acquire_f L) (by simp [Act.eval, stA]), mT + 20, ?_⟩
    walk_nrm
    refine Goes.step rfl (fun _ h₁ => ?_)
    replace hF := kl_rely hF h₁
    clear h₁
    rw [stepG_region_end]
    simp only [goes_go]
    refine ⟨(by first | exact dc0_none (fun e he => by simp at he) | exact ds_none (fun e he => by simp at he) | exact d0_nil (fun e he => by simp at he) | exact dm_nil (fun e he => by simp at he)), ?_⟩
    refine Goes.step rfl (fun _ h₁ => ?_)
    replace hF := kl_rely hF h₁
    clear h₁
    rw [stepG_seq]
    simp only [goes_go]
    refine ⟨(by first | exact dc0_none (fun e he => by simp at he) | exact ds_none (fun e he => by simp at he) | exact d0_nil (fun e he => by simp at he) | exact dm_nil (fun e he => by simp at he)), ?_⟩
    refine Goes.step rfl (fun _ h₁ => ?_)
    replace hF := kl_rely hF h₁
    clear h₁
    rw [stepG_seq]
    simp only [goes_go]
    refine ⟨(by first | exact dc0_none (fun e he => by simp at he) | exact ds_none (fun e he => by simp at he) | exact d0_nil (fun e he => by simp at he) | exact dm_nil (fun e he => by simp at he)), ?_⟩
    refine Goes.step rfl (fun _ h₁ => ?_)
    replace hF := kl_rely hF h₁
    clear h₁
    rw [stepG_region]
    simp only [goes_go, List.size_toArray, List.length_cons, List.length_nil, Nat.reduceAdd, Nat.zero_add, List.range, List.range.loop]
    refine ⟨(by first | exact dc0_none (fun e he => by simp at he) | exact ds_none (fun e he => by simp at he) | exact d0_nil (fun e he => by simp at he) | exact dm_nil (fun e he => by simp at he)), ?_⟩
    refine Goes.step rfl (fun _ h₁ => ?_)
    replace hF := kl_rely hF h₁
    clear h₁
    refine goes_oper_k rfl rfl (by k_ne) (fun K hK => ?_)
    go_simp
    refine hK _ _ ⟨?_, ?_⟩
    · first | refine dc0_none ?_ | refine ds_none ?_ | refine d0_nil ?_ | refine dm_nil ?_
      intro e he
      have hm := mem_listed he
      simp [go_sem, *] at hm
    clear hK K
    try w_num
    refine Goes.step rfl (fun _ h₁ => ?_)
    replace hF := kl_rely hF h₁
    clear h₁
    refine goes_oper_k rfl rfl (by k_ne) (fun K hK => ?_)
    go_simp
    refine hK _ _ ⟨?_, ?_⟩
    · first | refine dc0_none ?_ | refine ds_none ?_ | refine d0_nil ?_ | refine dm_nil ?_
      intro e he
      have hm := mem_listed he
      simp [go_sem, *] at hm
    clear hK K
    try w_num
    refine Goes.step rfl (fun _ h₁ => ?_)
    replace hF := kl_rely hF h₁
    clear h₁
    refine goes_oper_k rfl rfl (by k_ne) (fun K hK => ?_)
    go_simp
    refine hK _ _ ⟨?_, ?_⟩
    · first | refine dc0_none ?_ | refine ds_none ?_ | refine d0_nil ?_ | refine dm_nil ?_
      intro e he
      have hm := mem_listed he
      simp [go_sem, *] at hm
    clear hK K
    try w_num
    refine Goes.step rfl (fun _ h₁ => ?_)
    replace hF := kl_rely hF h₁
    clear h₁
    refine goes_oper_k rfl rfl (by k_ne) (fun K hK => ?_)
    go_simp
    refine hK _ _ ⟨?_, ?_⟩
    · first | refine dc0_none ?_ | refine ds_none ?_ | refine d0_nil ?_ | refine dm_nil ?_
      intro e he
      have hm := mem_listed he
      simp [go_sem, *] at hm
    clear hK K
    try w_num
    refine Goes.step rfl (fun _ h₁ => ?_)
    replace hF := kl_rely hF h₁
    clear h₁
    refine goes_oper_k rfl rfl (by k_ne) (fun K hK => ?_)
    go_simp
    refine hK _ _ ⟨?_, ?_⟩
    · first | refine dc0_none ?_ | refine ds_none ?_ | refine d0_nil ?_ | refine dm_nil ?_
      intro e he
      have hm := mem_listed he
      simp [go_sem, *] at hm
    clear hK K
    try w_num
    refine Goes.step rfl (fun _ h₁ => ?_)
    replace hF := kl_rely hF h₁
    clear h₁
    refine goes_oper_k rfl rfl (by k_ne) (fun K hK => ?_)
    go_simp
    refine hK _ _ ⟨?_, ?_⟩
    · first | refine dc0_none ?_ | refine ds_none ?_ | refine d0_nil ?_ | refine dm_nil ?_
      intro e he
      have hm := mem_listed he
      simp [go_sem, *] at hm
    clear hK K
    try w_num
    refine Goes.step rfl (fun _ h₁ => ?_)
    replace hF := kl_rely hF h₁
    clear h₁
    refine goes_oper_k rfl rfl (by k_ne) (fun K hK => ?_)
    go_simp
    refine hK _ _ ⟨?_, ?_⟩
    · first | refine dc0_none ?_ | refine ds_none ?_ | refine d0_nil ?_ | refine dm_nil ?_
      intro e he
      have hm := mem_listed he
      simp [go_sem, *] at hm
    clear hK K
    try w_num
    refine Goes.step rfl (fun _ h₁ => ?_)
    replace hF := kl_rely hF h₁
    clear h₁
    refine goes_oper_k rfl rfl (by k_ne) (fun K hK => ?_)
    go_simp
    refine hK _ _ ⟨?_, ?_⟩
    · first | refine dc0_none ?_ | refine ds_none ?_ | refine d0_nil ?_ | refine dm_nil ?_
      intro e he
      have hm := mem_listed he
      simp [go_sem, *] at hm
    clear hK K
    try w_num
    refine Goes.step rfl (fun _ h₁ => ?_)
    replace hF := kl_rely hF h₁
    clear h₁
    rw [stepG_unwanted rfl rfl]
    simp only [goes_go]
    refine ⟨(by first | exact dc0_none (fun e he => by simp at he) | exact ds_none (fun e he => by simp at he) | exact d0_nil (fun e he => by simp at he) | exact dm_nil (fun e he => by simp at he)), ?_⟩
    walk_nrm
    refine Goes.step rfl (fun _ h₁ => ?_)
    replace hF := kl_rely hF h₁
    clear h₁
    rw [stepG_unwanted rfl rfl]
    simp only [goes_go]
    refine ⟨(by first | exact dc0_none (fun e he => by simp at he) | exact ds_none (fun e he => by simp at he) | exact d0_nil (fun e he => by simp at he) | exact dm_nil (fun e he => by simp at he)), ?_⟩
    walk_nrm
    refine Goes.step rfl (fun _ h₁ => ?_)
    replace hF := kl_rely hF h₁
    clear h₁
    refine goes_oper_k rfl rfl (by k_ne) (fun K hK => ?_)
    go_simp
    refine hK _ _ ⟨?_, ?_⟩
    · first | refine dc0_none ?_ | refine ds_none ?_ | refine d0_nil ?_ | refine dm_nil ?_
      intro e he
      have hm := mem_listed he
      simp [go_sem, *] at hm
    clear hK K
    try w_num
    refine Goes.step rfl (fun _ h₁ => ?_)
    replace hF := kl_rely hF h₁
    clear h₁
    rw [stepG_region_end]
    simp only [goes_go]
    refine ⟨(by first | exact dc0_none (fun e he => by simp at he) | exact ds_none (fun e he => by simp at he) | exact d0_nil (fun e he => by simp at he) | exact dm_nil (fun e he => by simp at he)), ?_⟩
    refine Goes.step rfl (fun _ h₁ => ?_)
    replace hF := kl_rely hF h₁
    clear h₁
    rw [stepG_cond (t := false) rfl]
    simp only [goes_go, if_true, if_false, Bool.false_eq_true, ↓reduceIte]
    refine ⟨(by first | exact dc0_none (fun e he => by simp at he) | exact ds_none (fun e he => by simp at he) | exact d0_nil (fun e he => by simp at he) | exact dm_nil (fun e he => by simp at he)), ?_⟩
    refine Goes.step rfl (fun _ h₁ => ?_)
    replace hF := kl_rely hF h₁
    clear h₁
    rw [stepG_skip]
    simp only [goes_go]
    refine ⟨(by first | exact dc0_none (fun e he => by simp at he) | exact ds_none (fun e he => by simp at he) | exact d0_nil (fun e he => by simp at he) | exact dm_nil (fun e he => by simp at he)), ?_⟩
    refine Goes.step rfl (fun _ h₁ => ?_)
    replace hF := kl_rely hF h₁
    clear h₁
    rw [stepG_ret']
    simp only [goes_go]
    refine ⟨(by first | exact dc0_none (fun e he => by simp at he) | exact ds_none (fun e he => by simp at he) | exact d0_nil (fun e he => by simp at he) | exact dm_nil (fun e he => by simp at he)), ?_⟩
    refine Goes.step rfl (fun _ h₁ => ?_)
    replace hF := kl_rely hF h₁
    clear h₁
    refine goes_leave0 rfl rfl H.f_wait rfl ⟨(by first | exact dc0_none (fun e he => by simp at he) | exact ds_none (fun e he => by simp at he) | exact d0_nil (fun e he => by simp at he) | exact dm_nil (fun e he => by simp at he)), ?_⟩
    walk_nrm
    exact hT _ hF
  · obtain ⟨S, hS⟩ : ∃ S : Int, (v : Int) * KK = S := ⟨_, rfl⟩
    have a1 : S / 4294967296 = (v : Int) := by rw [← hS]; simp only [KK]; omega
    have b1 : bits .and .u64 S 2147483648 = 0 := by rw [← hS]; have := st_flag v 0 (by omega) (by omega); simpa [KK] using this
    have b2 : bits .and .u64 S 2147483647 = 0 := by rw [← hS]; have := st_waiters v 0 (by omega) (by omega); simpa [KK] using this
    have c1 : IntKind.i32.wrap (v : Int) = (v : Int) := by rw [IntKind.wrap_i32]; omega
    have w1 : IntKind.u64.wrap (S + 1) = S + 1 := by rw [IntKind.wrap_u64, ← hS]; simp only [KK]; omega
    have q3 : decide ((v : Int) < 0) = false := decide_eq_false (by omega)
    have q4 : decide (0 < (v : Int)) = true := decide_eq_true (by omega)
    have q5 : ((v : Int) == 0) = false := by simp; omega
    have q6 : decide ((v : Int) = 0) = false := decide_eq_false (by omega)
    rw [hS] at hw
    refine ⟨_, stepG_load_atomic (v := S) rfl rfl (by k_ne) rfl H.f_loadU64 (x_loadU64_n L) (x_loadU64_b L) (x_loadU64_x L) .u64 (x_loadU64_f L) rfl hw.cellSt, fun h0 => absurd h0 (by omega), fun _ => ⟨60, ?_⟩⟩
    clear hw
    walk_nrm
    refine Goes.step rfl (fun _ h₁ => ?_)
    replace hF := kl_rely hF h₁
    clear h₁
    refine goes_oper_k rfl rfl (by k_ne) (fun K hK => ?_)
    go_simp
    refine hK _ _ ⟨?_, ?_⟩
    · first | refine dc0_none ?_ | refine ds_none ?_ | refine d0_nil ?_ | refine dm_nil ?_
      intro e he
      have hm := mem_listed he
      simp [go_sem, *] at hm
    clear hK K
    try w_num
    refine Goes.step rfl (fun _ h₁ => ?_)
    replace hF := kl_rely hF h₁
    clear h₁
    rw [stepG_region_end]
    simp only [goes_go]
    refine ⟨(by first | exact dc0_none (fun e he => by simp at he) | exact ds_none (fun e he => by simp at he) | exact d0_nil (fun e he => by simp at he) | exact dm_nil (fun e he => by simp at he)), ?_⟩
    refine Goes.step rfl (fun _ h₁ => ?_)
    replace hF := kl_rely hF h₁
    clear h₁
    rw [stepG_ret']
    simp only [goes_go]
    refine ⟨(by first | exact dc0_none (fun e he => by simp at he) | exact ds_none (fun e he => by simp at he) | exact d0_nil (fun e he => by simp at he) | exact dm_nil (fun e he => by simp at he)), ?_⟩
    refine Goes.step rfl (fun _ h₁ => ?_)
    replace hF := kl_rely hF h₁
    clear h₁
    refine goes_leave1 rfl rfl H.f_uLoad rfl ⟨(by first | exact dc0_none (fun e he => by simp at he) | exact ds_none (fun e he => by simp at he) | exact d0_nil (fun e he => by simp at he) | exact dm_nil (fun e he => by simp at he)), ?_⟩
    walk_nrm
    refine Goes.step rfl (fun _ h₁ => ?_)
    replace hF := kl_rely hF h₁
    clear h₁
    refine goes_oper_k rfl rfl (by k_ne) (fun K hK => ?_)
    go_simp
    refine hK _ _ ⟨?_, ?_⟩
    · first | refine dc0_none ?_ | refine ds_none ?_ | refine d0_nil ?_ | refine dm_nil ?_
      intro e he
      have hm := mem_listed he
      simp [go_sem, *] at hm
    clear hK K
    try w_num
    refine Goes.step rfl (fun _ h₁ => ?_)
    replace hF := kl_rely hF h₁
    clear h₁
    rw [stepG_region_end]
    simp only [goes_go]
    refine ⟨(by first | exact dc0_none (fun e he => by simp at he) | exact ds_none (fun e he => by simp at he) | exact d0_nil (fun e he => by simp at he) | exact dm_nil (fun e he => by simp at he)), ?_⟩
    refine Goes.step rfl (fun _ h₁ => ?_)
    replace hF := kl_rely hF h₁
    clear h₁
    rw [stepG_seq]
    simp only [goes_go]
    refine ⟨(by first | exact dc0_none (fun e he => by simp at he) | exact ds_none (fun e he => by simp at he) | exact d0_nil (fun e he => by simp at he) | exact dm_nil (fun e he => by simp at he)), ?_⟩
    refine Goes.step rfl (fun _ h₁ => ?_)
    replace hF := kl_rely hF h₁
    clear h₁
    rw [stepG_region]
    simp only [goes_go, List.size_toArray, List.length_cons, List.length_nil, Nat.reduceAdd, Nat.zero_add, List.range, List.range.loop]
    refine ⟨(by first | exact dc0_none (fun e he => by simp at he) | exact ds_none (fun e he => by simp at he) | exact d0_nil (fun e he => by simp at he) | exact dm_nil (fun e he => by simp at he)), ?_⟩
    refine Goes.step rfl (fun _ h₁ => ?_)
    replace hF := kl_rely hF h₁
    clear h₁
    refine goes_oper_k rfl rfl (by k_ne) (fun K hK => ?_)
    go_simp
    refine hK _ _ ⟨?_, ?_⟩
    · first | refine dc0_none ?_ | refine ds_none ?_ | refine d0_nil ?_ | refine dm_nil ?_
      intro e he
      have hm := mem_listed he
      simp [go_sem, *] at hm
    clear hK K
    try w_num
    refine Goes.step rfl (fun _ h₁ => ?_)
    replace hF := kl_rely hF h₁
    clear h₁
    refine goes_oper_k rfl rfl (by k_ne) (fun K hK => ?_)
    go_simp
    refine hK _ _ ⟨?_, ?_⟩
    · first | refine dc0_none ?_ | refine ds_none ?_ | refine d0_nil ?_ | refine dm_nil ?_
      intro e he
      have hm := mem_listed he
      simp [go_sem, *] at hm
    clear hK K
    try w_num
    refine Goes.step rfl (fun _ h₁ => ?_)
    replace hF := kl_rely hF h₁
    clear h₁
    refine goes_oper_k rfl rfl (by k_ne) (fun K hK => ?_)
    go_simp
    refine hK _ _ ⟨?_, ?_⟩
    · first | refine dc0_none ?_ | refine ds_none ?_ | refine d0_nil ?_ | refine dm_nil ?_
      intro e he
      have hm := mem_listed he
      simp [go_sem, *] at hm
    clear hK K
    try w_num
    refine Goes.step rfl (fun _ h₁ => ?_)
    replace hF := kl_rely hF h₁
    clear h₁
    refine goes_oper_k rfl rfl (by k_ne) (fun K hK => ?_)
    go_simp
    refine hK _ _ ⟨?_, ?_⟩
    · first | refine dc0_none ?_ | refine ds_none ?_ | refine d0_nil ?_ | refine dm_nil ?_
      intro e he
      have hm := mem_listed he
      simp [go_sem, *] at hm
    clear hK K
    try w_num
    refine Goes.step rfl (fun _ h₁ => ?_)
    replace hF := kl_rely hF h₁
    clear h₁
    rw [stepG_region_end]
    simp only [goes_go]
    refine ⟨(by first | exact dc0_none (fun e he => by simp at he) | exact ds_none (fun e he => by simp at he) | exact d0_nil (fun e he => by simp at he) | exact dm_nil (fun e he => by simp at he)), ?_⟩
    refine Goes.step rfl (fun _ h₁ => ?_)
    replace hF := kl_rely hF h₁
    clear h₁
    rw [stepG_seq]
    simp only [goes_go]
    refine ⟨(by first | exact dc0_none (fun e he => by simp at he) | exact ds_none (fun e he => by simp at he) | exact d0_nil (fun e he => by simp at he) | exact dm_nil (fun e he => by simp at he)), ?_⟩
    refine Goes.step rfl (fun _ h₁ => ?_)
    replace hF := kl_rely hF h₁
    clear h₁
    rw [stepG_region]
    simp only [goes_go, List.size_toArray, List.length_cons, List.length_nil, Nat.reduceAdd, Nat.zero_add, List.range, List.range.loop]
    refine ⟨(by first | exact dc0_none (fun e he => by simp at he) | exact ds_none (fun e he => by simp at he) | exact d0_nil (fun e he => by simp at he) | exact dm_nil (fun e he => by simp at he)), ?_⟩
    refine Goes.step rfl (fun _ h₁ => ?_)
    replace hF := kl_rely hF h₁
    clear h₁
    refine goes_oper_k rfl rfl (by k_ne) (fun K hK => ?_)
    go_simp
    refine hK _ _ ⟨?_, ?_⟩
    · first | refine dc0_none ?_ | refine ds_none ?_ | refine d0_nil ?_ | refine dm_nil ?_
      intro e he
      have hm := mem_listed he
      simp [go_sem, *] at hm
    clear hK K
    try w_num
    refine Goes.step rfl (fun _ h₁ => ?_)
    replace hF := kl_rely hF h₁
    clear h₁
    refine goes_oper_k rfl rfl (by k_ne) (fun K hK => ?_)
    go_simp
    refine hK _ _ ⟨?_, ?_⟩
    · first | refine dc0_none ?_ | refine ds_none ?_ | refine d0_nil ?_ | refine dm_nil ?_
      intro e he
      have hm := mem_listed he
      simp [go_sem, *] at hm
    clear hK K
    try w_num
    refine Goes.step rfl (fun _ h₁ => ?_)
    replace hF := kl_rely hF h₁
    clear h₁
    refine goes_oper_k rfl rfl (by k_ne) (fun K hK => ?_)
    go_simp
    refine hK _ _ ⟨?_, ?_⟩
    · first | refine dc0_none ?_ | refine ds_none ?_ | refine d0_nil ?_ | refine dm_nil ?_
      intro e he
      have hm := mem_listed he
      simp [go_sem, *] at hm
    clear hK K
    try w_num
    refine Goes.step rfl (fun _ h₁ => ?_)
    replace hF := kl_rely hF h₁
    clear h₁
    refine goes_oper_k rfl rfl (by k_ne) (fun K hK => ?_)
    go_simp
    refine hK _ _ ⟨?_, ?_⟩
    · first | refine dc0_none ?_ | refine ds_none ?_ | refine d0_nil ?_ | refine dm_nil ?_
      intro e he
      have hm := mem_listed he
      simp [go_sem, *] at hm
    clear hK K
    try w_num
    refine Goes.step rfl (fun _ h₁ => ?_)
    replace hF := kl_rely hF h₁
    clear h₁
    rw [stepG_region_end]
    simp only [goes_go]
    refine ⟨(by first | exact dc0_none (fun e he => by simp at he) | exact ds_none (fun e he => by simp at he) | exact d0_nil (fun e he => by simp at he) | exact dm_nil (fun e he => by simp at he)), ?_⟩
    refine Goes.step rfl (fun _ h₁ => ?_)
    replace hF := kl_rely hF h₁
    clear h₁
    rw [stepG_seq]
    simp only [goes_go]
    refine ⟨(by first | exact dc0_none (fun e he => by simp at he) | exact ds_none (fun e he => by simp at he) | exact d0_nil (fun e he => by simp at he) | exact dm_nil (fun e he => by simp at he)), ?_⟩
    refine Goes.step rfl (fun _ h₁ => ?_)
    replace hF := kl_rely hF h₁
    clear h₁
    rw [stepG_seq]
    simp only [goes_go]
    refine ⟨(by first | exact dc0_none (fun e he => by simp at he) | exact ds_none (fun e he => by simp at he) | exact d0_nil (fun e he => by simp at he) | exact dm_nil (fun e he => by simp at he)), ?_⟩
    refine Goes.step rfl (fun _ h₁ => ?_)
    replace hF := kl_rely hF h₁
    clear h₁
    rw [stepG_region]
    simp only [goes_go, List.size_toArray, List.length_cons, List.length_nil, Nat.reduceAdd, Nat.zero_add, List.range, List.range.loop]
    refine ⟨(by first | exact dc0_none (fun e he => by simp at he) | exact ds_none (fun e he => by simp at he) | exact d0_nil (fun e he => by simp at he) | exact dm_nil (fun e he => by simp at he)), ?_⟩
    refine Goes.step rfl (fun _ h₁ => ?_)
    replace hF := kl_rely hF h₁
    clear h₁
    refine goes_oper_k rfl rfl (by k_ne) (fun K hK => ?_)
    go_simp
    refine hK _ _ ⟨?_, ?_⟩
    · first | refine dc0_none ?_ | refine ds_none ?_ | refine d0_nil ?_ | refine dm_nil ?_
      intro e he
      have hm := mem_listed he
      simp [go_sem, *] at hm
    clear hK K
    try w_num
    refine Goes.step rfl (fun _ h₁ => ?_)
    replace hF := kl_rely hF h₁
    clear h₁
    refine goes_oper_k rfl rfl (by k_ne) (fun K hK => ?_)
    go_simp
    refine hK _ _ ⟨?_, ?_⟩
    · first | refine dc0_none ?_ | refine ds_none ?_ | refine d0_nil ?_ | refine dm_nil ?_
      intro e he
      have hm := mem_listed he
      simp [go_sem, *] at hm
    clear hK K
    try w_num
    refine Goes.step rfl (fun _ h₁ => ?_)
    replace hF := kl_rely hF h₁
    clear h₁
    rw [stepG_region_end]
    simp only [goes_go]
    refine ⟨(by first | exact dc0_none (fun e he => by simp at he) | exact ds_none (fun e he => by simp at he) | exact d0_nil (fun e he => by simp at he) | exact dm_nil (fun e he => by simp at he)), ?_⟩
    refine Goes.step rfl (fun _ h₁ => ?_)
    replace hF := kl_rely hF h₁
    clear h₁
    rw [stepG_cond (t := false) (by first | rfl | (simp [Act.eval]; omega))]
    simp only [goes_go, if_true, if_false, Bool.false_eq_true, ↓reduceIte]
    refine ⟨(by first | exact dc0_none (fun e he => by simp at he) | exact ds_none (fun e he => by simp at he) | exact d0_nil (fun e he => by simp at he) | exact dm_nil (fun e he => by simp at he)), ?_⟩
    refine Goes.step rfl (fun _ h₁ => ?_)
    replace hF := kl_rely hF h₁
    clear h₁
    rw [stepG_skip]
    simp only [goes_go]
    refine ⟨(by first | exact dc0_none (fun e he => by simp at he) | exact ds_none (fun e he => by simp at he) | exact d0_nil (fun e he => by simp at he) | exact dm_nil (fun e he => by simp at he)), ?_⟩
    refine Goes.step rfl (fun _ h₁ => ?_)
    replace hF := kl_rely hF h₁
    clear h₁
    rw [stepG_seq]
    simp only [goes_go]
    refine ⟨(by first | exact dc0_none (fun e he => by simp at he) | exact ds_none (fun e he => by simp at he) | exact d0_nil (fun e he => by simp at he) | exact dm_nil (fun e he => by simp at he)), ?_⟩
    refine Goes.step rfl (fun _ h₁ => ?_)
    replace hF := kl_rely hF h₁
    clear h₁
    rw [stepG_region]
    simp only [goes_go, List.size_toArray, List.length_cons, List.length_nil, Nat.reduceAdd, Nat.zero_add, List.range, List.range.loop]
    refine ⟨(by first | exact dc0_none (fun e he => by simp at he) | exact ds_none (fun e he => by simp at he) | exact d0_nil (fun e he => by simp at he) | exact dm_nil (fun e he => by simp at he)), ?_⟩
    refine Goes.step rfl (fun _ h₁ => ?_)
    replace hF := kl_rely hF h₁
    clear h₁
    refine goes_oper_k rfl rfl (by k_ne) (fun K hK => ?_)
    go_simp
    refine hK _ _ ⟨?_, ?_⟩
    · first | refine dc0_none ?_ | refine ds_none ?_ | refine d0_nil ?_ | refine dm_nil ?_
      intro e he
      have hm := mem_listed he
      simp [go_sem, *] at hm
    clear hK K
    try w_num
    refine Goes.step rfl (fun _ h₁ => ?_)
    replace hF := kl_rely hF h₁
    clear h₁
    refine goes_oper_k rfl rfl (by k_ne) (fun K hK => ?_)
    go_simp
    refine hK _ _ ⟨?_, ?_⟩
    · first | refine dc0_none ?_ | refine ds_none ?_ | refine d0_nil ?_ | refine dm_nil ?_
      intro e he
      have hm := mem_listed he
      simp [go_sem, *] at hm
    clear hK K
    try w_num
    refine Goes.step rfl (fun _ h₁ => ?_)
    replace hF := kl_rely hF h₁
    clear h₁
    refine goes_oper_k rfl rfl (by k_ne) (fun K hK => ?_)
    go_simp
    refine hK _ _ ⟨?_, ?_⟩
    · first | refine dc0_none ?_ | refine ds_none ?_ | refine d0_nil ?_ | refine dm_nil ?_
      intro e he
      have hm := mem_listed he
      simp [go_sem, *] at hm
    clear hK K
    try w_num
    refine Goes.step rfl (fun _ h₁ => ?_)
    replace hF := kl_rely hF h₁
    clear h₁
    refine goes_oper_k rfl rfl (by k_ne) (fun K hK => ?_)
    go_simp
    refine hK _ _ ⟨?_, ?_⟩
    · first | refine dc0_none ?_ | refine ds_none ?_ | refine d0_nil ?_ | refine dm_nil ?_
      intro e he
      have hm := mem_listed he
      simp [go_sem, *] at hm
    clear hK K
    try w_num
    refine Goes.step rfl (fun _ h₁ => ?_)
    replace hF := kl_rely hF h₁
    clear h₁
    refine goes_oper_k rfl rfl (by k_ne) (fun K hK => ?_)
    go_simp
    refine hK _ _ ⟨?_, ?_⟩
    · first | refine dc0_none ?_ | refine ds_none ?_ | refine d0_nil ?_ | refine dm_nil ?_
      intro e he
      have hm := mem_listed he
      simp [go_sem, *] at hm
    clear hK K
    try w_num
    refine Goes.step rfl (fun _ h₁ => ?_)
    replace hF := kl_rely hF h₁
    clear h₁
    refine goes_oper_k rfl rfl (by k_ne) (fun K hK => ?_)
    go_simp
    refine hK _ _ ⟨?_, ?_⟩
    · first | refine dc0_none ?_ | refine ds_none ?_ | refine d0_nil ?_ | refine dm_nil ?_
      intro e he
      have hm := mem_listed he
      simp [go_sem, *] at hm
    clear hK K
    try w_num
    refine Goes.step rfl (fun _ h₁ => ?_)
    replace hF := kl_rely hF h₁
    clear h₁
    refine goes_call rfl rfl (by k_ne) rfl H.f_uCas (nm_uCas L) rfl ⟨(by first | exact dc0_none (fun e he => by simp at he) | exact ds_none (fun e he => by simp at he) | exact d0_nil (fun e he => by simp at he) | exact dm_nil (fun e he => by simp at he)), ?_⟩
    walk_nrmf uCasFn
    refine Goes.step rfl (fun _ h₁ => ?_)
    replace hF := kl_rely hF h₁
    clear h₁
    rw [stepG_seq]
    simp only [goes_go]
    refine ⟨(by first | exact dc0_none (fun e he => by simp at he) | exact ds_none (fun e he => by simp at he) | exact d0_nil (fun e he => by simp at he) | exact dm_nil (fun e he => by simp at he)), ?_⟩
    refine Goes.step rfl (fun _ h₁ => ?_)
    replace hF := kl_rely hF h₁
    clear h₁
    rw [stepG_region]
    simp only [goes_go, List.size_toArray, List.length_cons, List.length_nil, Nat.reduceAdd, Nat.zero_add, List.range, List.range.loop]
    refine ⟨(by first | exact dc0_none (fun e he => by simp at he) | exact ds_none (fun e he => by simp at he) | exact d0_nil (fun e he => by simp at he) | exact dm_nil (fun e he => by simp at he)), ?_⟩
    refine Goes.step rfl (fun _ h₁ => ?_)
    replace hF := kl_rely hF h₁
    clear h₁
    refine goes_oper_k rfl rfl (by k_ne) (fun K hK => ?_)
    go_simp
    refine hK _ _ ⟨?_, ?_⟩
    · first | refine dc0_none ?_ | refine ds_none ?_ | refine d0_nil ?_ | refine dm_nil ?_
      intro e he
      have hm := mem_listed he
      simp [go_sem, *] at hm
    clear hK K
    try w_num
    refine Goes.step rfl (fun _ h₁ => ?_)
    replace hF := kl_rely hF h₁
    clear h₁
    rw [stepG_region_end]
    simp only [goes_go]
    refine ⟨(by first | exact dc0_none (fun e he => by simp at he) | exact ds_none (fun e he => by simp at he) | exact d0_nil (fun e he => by simp at he) | exact dm_nil (fun e he => by simp at he)), ?_⟩
    refine Goes.step rfl (fun _ h₁ => ?_)
    replace hF := kl_rely hF h₁
    clear h₁
    rw [stepG_seq]
    simp only [goes_go]
    refine ⟨(by first | exact dc0_none (fun e he => by simp at he) | exact ds_none (fun e he => by simp at he) | exact d0_nil (fun e he => by simp at he) | exact dm_nil (fun e he => by simp at he)), ?_⟩
    refine Goes.step rfl (fun _ h₁ => ?_)
    replace hF := kl_rely hF h₁
    clear h₁
    rw [stepG_region]
    simp only [goes_go, List.size_toArray, List.length_cons, List.length_nil, Nat.reduceAdd, Nat.zero_add, List.range, List.range.loop]
    refine ⟨(by first | exact dc0_none (fun e he => by simp at he) | exact ds_none (fun e he => by simp at he) | exact d0_nil (fun e he => by simp at he) | exact dm_nil (fun e he => by simp at he)), ?_⟩
    refine Goes.step rfl (fun _ h₁ => ?_)
    replace hF := kl_rely hF h₁
    clear h₁
    refine goes_oper_k rfl rfl (by k_ne) (fun K hK => ?_)
    go_simp
    refine hK _ _ ⟨?_, ?_⟩
    · first | refine dc0_none ?_ | refine ds_none ?_ | refine d0_nil ?_ | refine dm_nil ?_
      intro e he
      have hm := mem_listed he
      simp [go_sem, *] at hm
    clear hK K
    try w_num
    refine Goes.step rfl (fun _ h₁ => ?_)
    replace hF := kl_rely hF h₁
    clear h₁
    refine goes_oper_k rfl rfl (by k_ne) (fun K hK => ?_)
    go_simp
    refine hK _ _ ⟨?_, ?_⟩
    · first | refine dc0_none ?_ | refine ds_none ?_ | refine d0_nil ?_ | refine dm_nil ?_
      intro e he
      have hm := mem_listed he
      simp [go_sem, *] at hm
    clear hK K
    try w_num
    refine Goes.step rfl (fun _ h₁ => ?_)
    replace hF := kl_rely hF h₁
    clear h₁
    refine goes_oper_k rfl rfl (by k_ne) (fun K hK => ?_)
    go_simp
    refine hK _ _ ⟨?_, ?_⟩
    · first | refine dc0_none ?_ | refine ds_none ?_ | refine d0_nil ?_ | refine dm_nil ?_
      intro e he
      have hm := mem_listed he
      simp [go_sem, *] at hm
    clear hK K
    try w_num
    refine Goes.step rfl (fun _ h₁ => ?_)
    replace hF := kl_rely hF h₁
    clear h₁
    refine goes_oper_k rfl rfl (by k_ne) (fun K hK => ?_)
    go_simp
    refine hK _ _ ⟨?_, ?_⟩
    · first | refine dc0_none ?_ | refine ds_none ?_ | refine d0_nil ?_ | refine dm_nil ?_
      intro e he
      have hm := mem_listed he
      simp [go_sem, *] at hm
    clear hK K
    try w_num
    refine Goes.step rfl (fun _ h₁ => ?_)
    replace hF := kl_rely hF h₁
    clear h₁
    refine goes_oper_k rfl rfl (by k_ne) (fun K hK => ?_)
    go_simp
    refine hK _ _ ⟨?_, ?_⟩
    · first | refine dc0_none ?_ | refine ds_none ?_ | refine d0_nil ?_ | refine dm_nil ?_
      intro e he
      have hm := mem_listed he
      simp [go_sem, *] at hm
    clear hK K
    try w_num
    refine Goes.stop (fun w₂ h₂ => ?_)
    replace hF := kl_rely hF h₂
    clear h₂
    refine ⟨rfl, fun v' hv' hw => ⟨fun e => ?_, fun e => ?_⟩⟩
    · subst e
      rw [hS] at hw ⊢
      refine ⟨_, (stepG_cas_hit (v := S) (n := S + 1) rfl rfl (by k_ne) rfl H.f_casU64 (x_casU64_n L) (x_casU64_b L) (x_casU64_x L) .u64 (x_casU64_f L) rfl rfl rfl hw.cellSt (hw.thaw 0)).trans (by rfl), 70, ?_⟩
      replace hF : KL E Mine l (w₂.setCell (stA E.Wg) (.int .u64 (S + 1))) := ⟨hF.1.wg hMs _ rfl _, ⟨_, _, hw.setSt _⟩⟩
      clear hw
      walk_nrm
      refine Goes.step rfl (fun _ h₁ => ?_)
      replace hF := kl_rely hF h₁
      clear h₁
      refine goes_oper_k rfl rfl (by k_ne) (fun K hK => ?_)
      go_simp
      refine hK _ _ ⟨?_, ?_⟩
      · first | refine dc0_none ?_ | refine ds_none ?_ | refine d0_nil ?_ | refine dm_nil ?_
        intro e he
        have hm := mem_listed he
        simp [go_sem, *] at hm
      clear hK K
      try w_num
      refine Goes.step rfl (fun _ h₁ => ?_)
      replace hF := kl_rely hF h₁
      clear h₁
      rw [stepG_region_end]
      simp only [goes_go]
      refine ⟨(by first | exact dc0_none (fun e he => by simp at he) | exact ds_none (fun e he => by simp at he) | exact d0_nil (fun e he => by simp at he) | exact dm_nil (fun e he => by simp at he)), ?_⟩
      refine Goes.step rfl (fun _ h₁ => ?_)
      replace hF := kl_rely hF h₁
      clear h₁
      rw [stepG_ret']
      simp only [goes_go]
      refine ⟨(by first | exact dc0_none (fun e he => by simp at he) | exact ds_none (fun e he => by simp at he) | exact d0_nil (fun e he => by simp at he) | exact dm_nil (fun e he => by simp at he)), ?_⟩
      refine Goes.step rfl (fun _ h₁ => ?_)
      replace hF := kl_rely hF h₁
      clear h₁
      refine goes_leave1 rfl rfl H.f_uCas rfl ⟨(by first | exact dc0_none (fun e he => by simp at he) | exact ds_none (fun e he => by simp at he) | exact d0_nil (fun e he => by simp at he) | exact dm_nil (fun e he => by simp at he)), ?_⟩
      walk_nrm
      refine Goes.step rfl (fun _ h₁ => ?_)
      replace hF := kl_rely hF h₁
      clear h₁
      rw [stepG_region_end]
      simp only [goes_go]
      refine ⟨(by first | exact dc0_none (fun e he => by simp at he) | exact ds_none (fun e he => by simp at he) | exact d0_nil (fun e he => by simp at he) | exact dm_nil (fun e he => by simp at he)), ?_⟩
      refine Goes.step rfl (fun _ h₁ => ?_)
      replace hF := kl_rely hF h₁
      clear h₁
      rw [stepG_cond (t := true) rfl]
      simp only [goes_go, if_true, if_false, Bool.false_eq_true, ↓reduceIte]
      refine ⟨(by first | exact dc0_none (fun e he => by simp at he) | exact ds_none (fun e he => by simp at he) | exact d0_nil (fun e he => by simp at he) | exact dm_nil (fun e he => by simp at he)), ?_⟩
      refine Goes.step rfl (fun _ h₁ => ?_)
      replace hF := kl_rely hF h₁
      clear h₁
      rw [stepG_seq]
      simp only [goes_go]
      refine ⟨(by first | exact dc0_none (fun e he => by simp at he) | exact ds_none (fun e he => by simp at he) | exact d0_nil (fun e he => by simp at he) | exact dm_nil (fun e he => by simp at he)), ?_⟩
      refine Goes.step rfl (fun _ h₁ => ?_)
      replace hF := kl_rely hF h₁
      clear h₁
      rw [stepG_seq]
      simp only [goes_go]
      refine ⟨(by first | exact dc0_none (fun e he => by simp at he) | exact ds_none (fun e he => by simp at he) | exact d0_nil (fun e he => by simp at he) | exact dm_nil (fun e he => by simp at he)), ?_⟩
      refine Goes.step rfl (fun _ h₁ => ?_)
      replace hF := kl_rely hF h₁
      clear h₁
      rw [stepG_region]
      simp only [goes_go, List.size_toArray, List.length_cons, List.length_nil, Nat.reduceAdd, Nat.zero_add, List.range, List.range.loop]
      refine ⟨(by first | exact dc0_none (fun e he => by simp at he) | exact ds_none (fun e he => by simp at he) | exact d0_nil (fun e he => by simp at he) | exact dm_nil (fun e he => by simp at he)), ?_⟩
      refine Goes.step rfl (fun _ h₁ => ?_)
      replace hF := kl_rely hF h₁
      clear h₁
      refine goes_oper_k rfl rfl (by k_ne) (fun K hK => ?_)
      go_simp
      refine hK _ _ ⟨?_, ?_⟩
      · first | refine dc0_none ?_ | refine ds_none ?_ | refine d0_nil ?_ | refine dm_nil ?_
        intro e he
        have hm := mem_listed he
        simp [go_sem, *] at hm
      clear hK K
      try w_num
      refine Goes.step rfl (fun _ h₁ => ?_)
      replace hF := kl_rely hF h₁
      clear h₁
      refine goes_oper_k rfl rfl (by k_ne) (fun K hK => ?_)
      go_simp
      refine hK _ _ ⟨?_, ?_⟩
      · first | refine dc0_none ?_ | refine ds_none ?_ | refine d0_nil ?_ | refine dm_nil ?_
        intro e he
        have hm := mem_listed he
        simp [go_sem, *] at hm
      clear hK K
      try w_num
      refine Goes.step rfl (fun _ h₁ => ?_)
      replace hF := kl_rely hF h₁
      clear h₁
      refine goes_oper_k rfl rfl (by k_ne) (fun K hK => ?_)
      go_simp
      refine hK _ _ ⟨?_, ?_⟩
      · first | refine dc0_none ?_ | refine ds_none ?_ | refine d0_nil ?_ | refine dm_nil ?_
        intro e he
        have hm := mem_listed he
        simp [go_sem, *] at hm
      clear hK K
      try w_num
      refine Goes.step rfl (fun _ h₁ => ?_)
      replace hF := kl_rely hF h₁
      clear h₁
      refine goes_oper_k rfl rfl (by k_ne) (fun K hK => ?_)
      go_simp
      refine hK _ _ ⟨?_, ?_⟩
      · first | refine dc0_none ?_ | refine ds_none ?_ | refine d0_nil ?_ | refine dm_nil ?_
        intro e he
        have hm := mem_listed he
        simp [go_sem, *] at hm
      clear hK K
      try w_num
      refine Goes.step rfl (fun _ h₁ => ?_)
      replace hF := kl_rely hF h₁
      clear h₁
      rw [stepG_region_end]
      simp only [goes_go]
      refine ⟨(by first | exact dc0_none (fun e he => by simp at he) | exact ds_none (fun e he => by simp at he) | exact d0_nil (fun e he => by simp at he) | exact dm_nil (fun e he => by simp at he)), ?_⟩
      refine Goes.step rfl (fun _ h₁ => ?_)
      replace hF := kl_rely hF h₁
      clear h₁
      rw [stepG_cond (t := true) rfl]
      simp only [goes_go, if_true, if_false, Bool.false_eq_true, ↓reduceIte]
      refine ⟨(by first | exact dc0_none (fun e he => by simp at he) | exact ds_none (fun e he => by simp at he) | exact d0_nil (fun e he => by simp at he) | exact dm_nil (fun e he => by simp at he)), ?_⟩
      refine Goes.step rfl (fun _ h₁ => ?_)
      replace hF := kl_rely hF h₁
      clear h₁
      rw [stepG_region]
      simp only [goes_go, List.size_toArray, List.length_cons, List.length_nil, Nat.reduceAdd, Nat.zero_add, List.range, List.range.loop]
      refine ⟨(by first | exact dc0_none (fun e he => by simp at he) | exact ds_none (fun e he => by simp at he) | exact d0_nil (fun e he => by simp at he) | exact dm_nil (fun e he => by simp at he)), ?_⟩
      refine Goes.step rfl (fun _ h₁ => ?_)
      replace hF := kl_rely hF h₁
      clear h₁
      refine goes_oper_k rfl rfl (by k_ne) (fun K hK => ?_)
      go_simp
      refine hK _ _ ⟨?_, ?_⟩
      · first | refine dc0_none ?_ | refine ds_none ?_ | refine d0_nil ?_ | refine dm_nil ?_
        intro e he
        have hm := mem_listed he
        simp [go_sem, *] at hm
      clear hK K
      try w_num
      refine Goes.step rfl (fun _ h₁ => ?_)
      replace hF := kl_rely hF h₁
      clear h₁
      refine goes_oper_k rfl rfl (by k_ne) (fun K hK => ?_)
      go_simp
      refine hK _ _ ⟨?_, ?_⟩
      · first | refine dc0_none ?_ | refine ds_none ?_ | refine d0_nil ?_ | refine dm_nil ?_
        intro e he
        have hm := mem_listed he
        simp [go_sem, *] at hm
      clear hK K
      try w_num
      refine Goes.step rfl (fun _ h₁ => ?_)
      replace hF := kl_rely hF h₁
      clear h₁
      refine goes_oper_k rfl rfl (by k_ne) (fun K hK => ?_)
      go_simp
      refine hK _ _ ⟨?_, ?_⟩
      · first | refine dc0_none ?_ | refine ds_none ?_ | refine d0_nil ?_ | refine dm_nil ?_
        intro e he
        have hm := mem_listed he
        simp [go_sem, *] at hm
      clear hK K
      try w_num
      refine Goes.step rfl (fun _ h₁ => ?_)
      replace hF := kl_rely hF h₁
      clear h₁
      refine goes_oper_k rfl rfl (by k_ne) (fun Kx hKx => ?_)
      have hcv := run_convert_to_unsafe (P := P) H.underlying_tPU32 H.underlying_tUP H.room_tU32 (WgLive.cell1 hF.2).choose_spec
      have hce := fun es => events_convert_to_unsafe (P := P) H.underlying_tPU32 H.underlying_tUP H.room_tU32 (WgLive.cell1 hF.2).choose_spec es
      go_simp
      refine hKx _ _ ⟨?_, ?_⟩
      · first | refine dc0_none ?_ | refine ds_none ?_ | refine d0_nil ?_ | refine dm_nil ?_
        intro ex hex
        have hmx := mem_listed hex
        simp [go_sem, hce] at hmx
      clear hKx Kx hcv hce
      refine Goes.step rfl (fun _ h₁ => ?_)
      replace hF := kl_rely hF h₁
      clear h₁
      rw [stepG_markAt .write (by simp) rfl rfl (by k_ne) rfl H.f_raceWrite (x_raceWrite_n L) (x_raceWrite_b L) (x_raceWrite_x L) (x_raceWrite_f L) (ad := ⟨E.Wg, 1, none⟩) (by simp [Act.eval])]
      simp only [goes_go]
      refine ⟨⟨rfl, fun ex hex => ?_⟩, ?_⟩
      · rw [Array.mem_singleton] at hex
        subst hex
        exact ⟨⟨E.Wg, 1, none⟩, rfl, rfl⟩
      walk_nrm
      refine Goes.step rfl (fun _ h₁ => ?_)
      replace hF := kl_rely hF h₁
      clear h₁
      rw [stepG_region_end]
      simp only [goes_go]
      refine ⟨(by first | exact dc0_none (fun e he => by simp at he) | exact ds_none (fun e he => by simp at he) | exact d0_nil (fun e he => by simp at he) | exact dm_nil (fun e he => by simp at he)), ?_⟩
      refine Goes.step rfl (fun _ h₁ => ?_)
      replace hF := kl_rely hF h₁
      clear h₁
      rw [stepG_seq]
      simp only [goes_go]
      refine ⟨(by first | exact dc0_none (fun e he => by simp at he) | exact ds_none (fun e he => by simp at he) | exact d0_nil (fun e he => by simp at he) | exact dm_nil (fun e he => by simp at he)), ?_⟩
      refine Goes.step rfl (fun _ h₁ => ?_)
      replace hF := kl_rely hF h₁
      clear h₁
      rw [stepG_region]
      simp only [goes_go, List.size_toArray, List.length_cons, List.length_nil, Nat.reduceAdd, Nat.zero_add, List.range, List.range.loop]
      refine ⟨(by first | exact dc0_none (fun e he => by simp at he) | exact ds_none (fun e he => by simp at he) | exact d0_nil (fun e he => by simp at he) | exact dm_nil (fun e he => by simp at he)), ?_⟩
      refine Goes.step rfl (fun _ h₁ => ?_)
      replace hF := kl_rely hF h₁
      clear h₁
      refine goes_oper_k rfl rfl (by k_ne) (fun K hK => ?_)
      go_simp
      refine hK _ _ ⟨?_, ?_⟩
      · first | refine dc0_none ?_ | refine ds_none ?_ | refine d0_nil ?_ | refine dm_nil ?_
        intro e he
        have hm := mem_listed he
        simp [go_sem, *] at hm
      clear hK K
      try w_num
      refine Goes.step rfl (fun _ h₁ => ?_)
      replace hF := kl_rely hF h₁
      clear h₁
      rw [stepG_region_end]
      simp only [goes_go]
      refine ⟨(by first | exact dc0_none (fun e he => by simp at he) | exact ds_none (fun e he => by simp at he) | exact d0_nil (fun e he => by simp at he) | exact dm_nil (fun e he => by simp at he)), ?_⟩
      refine Goes.step rfl (fun _ h₁ => ?_)
      replace hF := kl_rely hF h₁
      clear h₁
      rw [stepG_seq]
      simp only [goes_go]
      refine ⟨(by first | exact dc0_none (fun e he => by simp at he) | exact ds_none (fun e he => by simp at he) | exact d0_nil (fun e he => by simp at he) | exact dm_nil (fun e he => by simp at he)), ?_⟩
      refine Goes.step rfl (fun _ h₁ => ?_)
      replace hF := kl_rely hF h₁
      clear h₁
      rw [stepG_seq]
      simp only [goes_go]
      refine ⟨(by first | exact dc0_none (fun e he => by simp at he) | exact ds_none (fun e he => by simp at he) | exact d0_nil (fun e he => by simp at he) | exact dm_nil (fun e he => by simp at he)), ?_⟩
      refine Goes.step rfl (fun _ h₁ => ?_)
      replace hF := kl_rely hF h₁
      clear h₁
      rw [stepG_region]
      simp only [goes_go, List.size_toArray, List.length_cons, List.length_nil, Nat.reduceAdd, Nat.zero_add, List.range, List.range.loop]
      refine ⟨(by first | exact dc0_none (fun e he => by simp at he) | exact ds_none (fun e he => by simp at he) | exact d0_nil (fun e he => by simp at he) | exact dm_nil (fun e he => by simp at he)), ?_⟩
      refine Goes.step rfl (fun _ h₁ => ?_)
      replace hF := kl_rely hF h₁
      clear h₁
      refine goes_oper_k rfl rfl (by k_ne) (fun K hK => ?_)
      go_simp
      refine hK _ _ ⟨?_, ?_⟩
      · first | refine dc0_none ?_ | refine ds_none ?_ | refine d0_nil ?_ | refine dm_nil ?_
        intro e he
        have hm := mem_listed he
        simp [go_sem, *] at hm
      clear hK K
      try w_num
      refine Goes.step rfl (fun _ h₁ => ?_)
      replace hF := kl_rely hF h₁
      clear h₁
      refine goes_oper_k rfl rfl (by k_ne) (fun K hK => ?_)
      go_simp
      refine hK _ _ ⟨?_, ?_⟩
      · first | refine dc0_none ?_ | refine ds_none ?_ | refine d0_nil ?_ | refine dm_nil ?_
        intro e he
        have hm := mem_listed he
        simp [go_sem, *] at hm
      clear hK K
      try w_num
      refine Goes.step rfl (fun _ h₁ => ?_)
      replace hF := kl_rely hF h₁
      clear h₁
      refine goes_oper_k rfl rfl (by k_ne) (fun K hK => ?_)
      go_simp
      refine hK _ _ ⟨?_, ?_⟩
      · first | refine dc0_none ?_ | refine ds_none ?_ | refine d0_nil ?_ | refine dm_nil ?_
        intro e he
        have hm := mem_listed he
        simp [go_sem, *] at hm
      clear hK K
      try w_num
      refine Goes.step rfl (fun _ h₁ => ?_)
      replace hF := kl_rely hF h₁
      clear h₁
      refine goes_oper_k rfl rfl (by k_ne) (fun K hK => ?_)
      go_simp
      refine hK _ _ ⟨?_, ?_⟩
      · first | refine dc0_none ?_ | refine ds_none ?_ | refine d0_nil ?_ | refine dm_nil ?_
        intro e he
        have hm := mem_listed he
        simp [go_sem, *] at hm
      clear hK K
      try w_num
      refine Goes.step rfl (fun _ h₁ => ?_)
      replace hF := kl_rely hF h₁
      clear h₁
      rw [stepG_unwanted rfl rfl]
      simp only [goes_go]
      refine ⟨(by first | exact dc0_none (fun e he => by simp at he) | exact ds_none (fun e he => by simp at he) | exact d0_nil (fun e he => by simp at he) | exact dm_nil (fun e he => by simp at he)), ?_⟩
      walk_nrm
      refine Goes.step rfl (fun _ h₁ => ?_)
      replace hF := kl_rely hF h₁
      clear h₁
      refine goes_oper_k rfl rfl (by k_ne) (fun K hK => ?_)
      go_simp
      refine hK _ _ ⟨?_, ?_⟩
      · first | refine dc0_none ?_ | refine ds_none ?_ | refine d0_nil ?_ | refine dm_nil ?_
        intro e he
        have hm := mem_listed he
        simp [go_sem, *] at hm
      clear hK K
      try w_num
      refine Goes.step rfl (fun _ h₁ => ?_)
      replace hF := kl_rely hF h₁
      clear h₁
      rw [stepG_region_end]
      simp only [goes_go]
      refine ⟨(by first | exact dc0_none (fun e he => by simp at he) | exact ds_none (fun e he => by simp at he) | exact d0_nil (fun e he => by simp at he) | exact dm_nil (fun e he => by simp at he)), ?_⟩
      refine Goes.step rfl (fun _ h₁ => ?_)
      replace hF := kl_rely hF h₁
      clear h₁
      rw [stepG_cond (t := false) rfl]
      simp only [goes_go, if_true, if_false, Bool.false_eq_true, ↓reduceIte]
      refine ⟨(by first | exact dc0_none (fun e he => by simp at he) | exact ds_none (fun e he => by simp at he) | exact d0_nil (fun e he => by simp at he) | exact dm_nil (fun e he => by simp at he)), ?_⟩
      refine Goes.step rfl (fun _ h₁ => ?_)
      replace hF := kl_rely hF h₁
      clear h₁
      rw [stepG_skip]
      simp only [goes_go]
      refine ⟨(by first | exact dc0_none (fun e he => by simp at he) | exact ds_none (fun e he => by simp at he) | exact d0_nil (fun e he => by simp at he) | exact dm_nil (fun e he => by simp at he)), ?_⟩
      refine Goes.step rfl (fun _ h₁ => ?_)
      replace hF := kl_rely hF h₁
      clear h₁
      rw [stepG_seq]
      simp only [goes_go]
      refine ⟨(by first | exact dc0_none (fun e he => by simp at he) | exact ds_none (fun e he => by simp at he) | exact d0_nil (fun e he => by simp at he) | exact dm_nil (fun e he => by simp at he)), ?_⟩
      refine Goes.step rfl (fun _ h₁ => ?_)
      replace hF := kl_rely hF h₁
      clear h₁
      rw [stepG_region]
      simp only [goes_go, List.size_toArray, List.length_cons, List.length_nil, Nat.reduceAdd, Nat.zero_add, List.range, List.range.loop]
      refine ⟨(by first | exact dc0_none (fun e he => by simp at he) | exact ds_none (fun e he => by simp at he) | exact d0_nil (fun e he => by simp at he) | exact dm_nil (fun e he => by simp at he)), ?_⟩
      refine Goes.step rfl (fun _ h₁ => ?_)
      replace hF := kl_rely hF h₁
      clear h₁
      refine goes_oper_k rfl rfl (by k_ne) (fun K hK => ?_)
      go_simp
      refine hK _ _ ⟨?_, ?_⟩
      · first | refine dc0_none ?_ | refine ds_none ?_ | refine d0_nil ?_ | refine dm_nil ?_
        intro e he
        have hm := mem_listed he
        simp [go_sem, *] at hm
      clear hK K
      try w_num
      refine Goes.step rfl (fun _ h₁ => ?_)
      replace hF := kl_rely hF h₁
      clear h₁
      refine goes_oper_k rfl rfl (by k_ne) (fun K hK => ?_)
      go_simp
      refine hK _ _ ⟨?_, ?_⟩
      · first | refine dc0_none ?_ | refine ds_none ?_ | refine d0_nil ?_ | refine dm_nil ?_
        intro e he
        have hm := mem_listed he
        simp [go_sem, *] at hm
      clear hK K
      try w_num
      refine Goes.step rfl (fun _ h₁ => ?_)
      replace hF := kl_rely hF h₁
      clear h₁
      refine goes_oper_k rfl rfl (by k_ne) (fun K hK => ?_)
      go_simp
      refine hK _ _ ⟨?_, ?_⟩
      · first | refine dc0_none ?_ | refine ds_none ?_ | refine d0_nil ?_ | refine dm_nil ?_
        intro e he
        have hm := mem_listed he
        simp [go_sem, *] at hm
      clear hK K
      try w_num
      refine Goes.step rfl (fun _ h₁ => ?_)
      replace hF := kl_rely hF h₁
      clear h₁
      refine goes_oper_k rfl rfl (by k_ne) (fun K hK => ?_)
      go_simp
      refine hK _ _ ⟨?_, ?_⟩
      · first | refine dc0_none ?_ | refine ds_none ?_ | refine d0_nil ?_ | refine dm_nil ?_
        intro e he
        have hm := mem_listed he
        simp [go_sem, *] at hm
      clear hK K
      try w_num
      refine Goes.stop (fun w₃ h₃ => ?_)
      replace hF := kl_rely hF h₃
      clear h₃
      refine ⟨none, rfl, rfl, fun w₄ h₄ => ⟨fun ⟨st, hw⟩ => stepG_semacquire_wait rfl rfl rfl H.f_semacquire (x_semacquire_n L) (x_semacquire_b L) (x_semacquire_x L) (x_semacquire_f L) (by simp [Act.eval, smA]) hw.cellSm, fun hf => ?_⟩⟩
      replace hF := kl_rely hF h₄
      clear h₄
      refine ⟨_, (stepG_semacquire (n := 1) rfl rfl (by k_ne) rfl H.f_semacquire (x_semacquire_n L) (x_semacquire_b L) (x_semacquire_x L) (x_semacquire_f L) (by simp [Act.eval, smA]) hf.cellSm (by k_ne) (hf.thaw 1)).trans (by rfl), 30, ?_⟩
      replace hF : KL E Mine l (w₄.setCell (smA E.Wg) (.int .u32 0)) := ⟨hF.1.wg hMs _ rfl _, ⟨_, _, hf.setSm 0⟩⟩
      clear hf
      walk_nrm
      refine Goes.step rfl (fun _ h₁ => ?_)
      replace hF := kl_rely hF h₁
      clear h₁
      rw [stepG_region_end]
      simp only [goes_go]
      refine ⟨(by first | exact dc0_none (fun e he => by simp at he) | exact ds_none (fun e he => by simp at he) | exact d0_nil (fun e he => by simp at he) | exact dm_nil (fun e he => by simp at he)), ?_⟩
      refine Goes.step rfl (fun _ h₁ => ?_)
      replace hF := kl_rely hF h₁
      clear h₁
      rw [stepG_seq]
      simp only [goes_go]
      refine ⟨(by first | exact dc0_none (fun e he => by simp at he) | exact ds_none (fun e he => by simp at he) | exact d0_nil (fun e he => by simp at he) | exact dm_nil (fun e he => by simp at he)), ?_⟩
      refine Goes.step rfl (fun _ h₁ => ?_)
      replace hF := kl_rely hF h₁
      clear h₁
      rw [stepG_region]
      simp only [goes_go, List.size_toArray, List.length_cons, List.length_nil, Nat.reduceAdd, Nat.zero_add, List.range, List.range.loop]
      refine ⟨(by first | exact dc0_none (fun e he => by simp at he) | exact ds_none (fun e he => by simp at he) | exact d0_nil (fun e he => by simp at he) | exact dm_nil (fun e he => by simp at he)), ?_⟩
      refine Goes.step rfl (fun _ h₁ => ?_)
      replace hF := kl_rely hF h₁
      clear h₁
      refine goes_oper_k rfl rfl (by k_ne) (fun K hK => ?_)
      go_simp
      refine hK _ _ ⟨?_, ?_⟩
      · first | refine dc0_none ?_ | refine ds_none ?_ | refine d0_nil ?_ | refine dm_nil ?_
        intro e he
        have hm := mem_listed he
        simp [go_sem, *] at hm
      clear hK K
      try w_num
      refine Goes.step rfl (fun _ h₁ => ?_)
      replace hF := kl_rely hF h₁
      clear h₁
      refine goes_oper_k rfl rfl (by k_ne) (fun K hK => ?_)
      go_simp
      refine hK _ _ ⟨?_, ?_⟩
      · first | refine dc0_none ?_ | refine ds_none ?_ | refine d0_nil ?_ | refine dm_nil ?_
        intro e he
        have hm := mem_listed he
        simp [go_sem, *] at hm
      clear hK K
      try w_num
      refine Goes.step rfl (fun _ h₁ => ?_)
      replace hF := kl_rely hF h₁
      clear h₁
      refine goes_oper_k rfl rfl (by k_ne) (fun K hK => ?_)
      go_simp
      refine hK _ _ ⟨?_, ?_⟩
      · first | refine dc0_none ?_ | refine ds_none ?_ | refine d0_nil ?_ | refine dm_nil ?_
        intro e he
        have hm := mem_listed he
        simp [go_sem, *] at hm
      clear hK K
      try w_num
      refine Goes.step rfl (fun _ h₁ => ?_)
      replace hF := kl_rely hF h₁
      clear h₁
      refine goes_call rfl rfl (by k_ne) rfl H.f_uLoad (nm_uLoad L) rfl ⟨(by first | exact dc0_none (fun e he => by simp at he) | exact ds_none (fun e he => by simp at he) | exact d0_nil (fun e he => by simp at he) | exact dm_nil (fun e he => by simp at he)), ?_⟩
      walk_nrmf uLoadFn
      refine Goes.step rfl (fun _ h₁ => ?_)
      replace hF := kl_rely hF h₁
      clear h₁
      rw [stepG_seq]
      simp only [goes_go]
      refine ⟨(by first | exact dc0_none (fun e he => by simp at he) | exact ds_none (fun e he => by simp at he) | exact d0_nil (fun e he => by simp at he) | exact dm_nil (fun e he => by simp at he)), ?_⟩
      refine Goes.step rfl (fun _ h₁ => ?_)
      replace hF := kl_rely hF h₁
      clear h₁
      rw [stepG_region]
      simp only [goes_go, List.size_toArray, List.length_cons, List.length_nil, Nat.reduceAdd, Nat.zero_add, List.range, List.range.loop]
      refine ⟨(by first | exact dc0_none (fun e he => by simp at he) | exact ds_none (fun e he => by simp at he) | exact d0_nil (fun e he => by simp at he) | exact dm_nil (fun e he => by simp at he)), ?_⟩
      refine Goes.step rfl (fun _ h₁ => ?_)
      replace hF := kl_rely hF h₁
      clear h₁
      refine goes_oper_k rfl rfl (by k_ne) (fun K hK => ?_)
      go_simp
      refine hK _ _ ⟨?_, ?_⟩
      · first | refine dc0_none ?_ | refine ds_none ?_ | refine d0_nil ?_ | refine dm_nil ?_
        intro e he
        have hm := mem_listed he
        simp [go_sem, *] at hm
      clear hK K
      try w_num
      refine Goes.step rfl (fun _ h₁ => ?_)
      replace hF := kl_rely hF h₁
      clear h₁
      rw [stepG_region_end]
      simp only [goes_go]
      refine ⟨(by first | exact dc0_none (fun e he => by simp at he) | exact ds_none (fun e he => by simp at he) | exact d0_nil (fun e he => by simp at he) | exact dm_nil (fun e he => by simp at he)), ?_⟩
      refine Goes.step rfl (fun _ h₁ => ?_)
      replace hF := kl_rely hF h₁
      clear h₁
      rw [stepG_seq]
      simp only [goes_go]
      refine ⟨(by first | exact dc0_none (fun e he => by simp at he) | exact ds_none (fun e he => by simp at he) | exact d0_nil (fun e he => by simp at he) | exact dm_nil (fun e he => by simp at he)), ?_⟩
      refine Goes.step rfl (fun _ h₁ => ?_)
      replace hF := kl_rely hF h₁
      clear h₁
      rw [stepG_region]
      simp only [goes_go, List.size_toArray, List.length_cons, List.length_nil, Nat.reduceAdd, Nat.zero_add, List.range, List.range.loop]
      refine ⟨(by first | exact dc0_none (fun e he => by simp at he) | exact ds_none (fun e he => by simp at he) | exact d0_nil (fun e he => by simp at he) | exact dm_nil (fun e he => by simp at he)), ?_⟩
      refine Goes.step rfl (fun _ h₁ => ?_)
      replace hF := kl_rely hF h₁
      clear h₁
      refine goes_oper_k rfl rfl (by k_ne) (fun K hK => ?_)
      go_simp
      refine hK _ _ ⟨?_, ?_⟩
      · first | refine dc0_none ?_ | refine ds_none ?_ | refine d0_nil ?_ | refine dm_nil ?_
        intro e he
        have hm := mem_listed he
        simp [go_sem, *] at hm
      clear hK K
      try w_num
      refine Goes.step rfl (fun _ h₁ => ?_)
      replace hF := kl_rely hF h₁
      clear h₁
      refine goes_oper_k rfl rfl (by k_ne) (fun K hK => ?_)
      go_simp
      refine hK _ _ ⟨?_, ?_⟩
      · first | refine dc0_none ?_ | refine ds_none ?_ | refine d0_nil ?_ | refine dm_nil ?_
        intro e he
        have hm := mem_listed he
        simp [go_sem, *] at hm
      clear hK K
      try w_num
      refine Goes.step rfl (fun _ h₁ => ?_)
      replace hF := kl_rely hF h₁
      clear h₁
      refine goes_oper_k rfl rfl (by k_ne) (fun K hK => ?_)
      go_simp
      refine hK _ _ ⟨?_, ?_⟩
      · first | refine dc0_none ?_ | refine ds_none ?_ | refine d0_nil ?_ | refine dm_nil ?_
        intro e he
        have hm := mem_listed he
        simp [go_sem, *] at hm
      clear hK K
      try w_num
      refine Goes.stop (fun w₅ h₅ => ?_)
      replace hF := kl_rely hF h₅
      clear h₅
      refine ⟨rfl, fun hw => ⟨_, stepG_load_atomic (v := 0) rfl rfl (by k_ne) rfl H.f_loadU64 (x_loadU64_n L) (x_loadU64_b L) (x_loadU64_x L) .u64 (x_loadU64_f L) rfl hw.cellSt, 30, ?_⟩⟩
      clear hw
      walk_nrm
      refine Goes.step rfl (fun _ h₁ => ?_)
      replace hF := kl_rely hF h₁
      clear h₁
      refine goes_oper_k rfl rfl (by k_ne) (fun K hK => ?_)
      go_simp
      refine hK _ _ ⟨?_, ?_⟩
      · first | refine dc0_none ?_ | refine ds_none ?_ | refine d0_nil ?_ | refine dm_nil ?_
        intro e he
        have hm := mem_listed he
        simp [go_sem, *] at hm
      clear hK K
      try w_num
      refine Goes.step rfl (fun _ h₁ => ?_)
      replace hF := kl_rely hF h₁
      clear h₁
      rw [stepG_region_end]
      simp only [goes_go]
      refine ⟨(by first | exact dc0_none (fun e he => by simp at he) | exact ds_none (fun e he => by simp at he) | exact d0_nil (fun e he => by simp at he) | exact dm_nil (fun e he => by simp at he)), ?_⟩
      refine Goes.step rfl (fun _ h₁ => ?_)
      replace hF := kl_rely hF h₁
      clear h₁
      rw [stepG_ret']
      simp only [goes_go]
      refine ⟨(by first | exact dc0_none (fun e he => by simp at he) | exact ds_none (fun e he => by simp at he) | exact d0_nil (fun e he => by simp at he) | exact dm_nil (fun e he => by simp at he)), ?_⟩
      refine Goes.step rfl (fun _ h₁ => ?_)
      replace hF := kl_rely hF h₁
      clear h₁
      refine goes_leave1 rfl rfl H.f_uLoad rfl ⟨(by first | exact dc0_none (fun e he => by simp at he) | exact ds_none (fun e he => by simp at he) | exact d0_nil (fun e he => by simp at he) | exact dm_nil (fun e he => by simp at he)), ?_⟩
      walk_nrm
      refine Goes.step rfl (fun _ h₁ => ?_)
      replace hF := kl_rely hF h₁
      clear h₁
      refine goes_oper_k rfl rfl (by k_ne) (fun K hK => ?_)
      go_simp
      refine hK _ _ ⟨?_, ?_⟩
      · first | refine dc0_none ?_ | refine ds_none ?_ | refine d0_nil ?_ | refine dm_nil ?_
        intro e he
        have hm := mem_listed he
        simp [go_sem, *] at hm
      clear hK K
      try w_num
      refine Goes.step rfl (fun _ h₁ => ?_)
      replace hF := kl_rely hF h₁
      clear h₁
      refine goes_oper_k rfl rfl (by k_ne) (fun K hK => ?_)
      go_simp
      refine hK _ _ ⟨?_, ?_⟩
      · first | refine dc0_none ?_ | refine ds_none ?_ | refine d0_nil ?_ | refine dm_nil ?_
        intro e he
        have hm := mem_listed he
        simp [go_sem, *] at hm
      clear hK K
      try w_num
      refine Goes.step rfl (fun _ h₁ => ?_)
      replace hF := kl_rely hF h₁
      clear h₁
      rw [stepG_region_end]
      simp only [goes_go]
      refine ⟨(by first | exact dc0_none (fun e he => by simp at he) | exact ds_none (fun e he => by simp at he) | exact d0_nil (fun e he => by simp at he) | exact dm_nil (fun e he => by simp at he)), ?_⟩
      refine Goes.step rfl (fun _ h₁ => ?_)
      replace hF := kl_rely hF h₁
      clear h₁
      rw [stepG_seq]
      simp only [goes_go]
      refine ⟨(by first | exact dc0_none (fun e he => by simp at he) | exact ds_none (fun e he => by simp at he) | exact d0_nil (fun e he => by simp at he) | exact dm_nil (fun e he => by simp at he)), ?_⟩
      refine Goes.step rfl (fun _ h₁ => ?_)
      replace hF := kl_rely hF h₁
      clear h₁
      rw [stepG_cond (t := true) rfl]
      simp only [goes_go, if_true, if_false, Bool.false_eq_true, ↓reduceIte]
      refine ⟨(by first | exact dc0_none (fun e he => by simp at he) | exact ds_none (fun e he => by simp at he) | exact d0_nil (fun e he => by simp at he) | exact dm_nil (fun e he => by simp at he)), ?_⟩
      refine Goes.step rfl (fun _ h₁ => ?_)
      replace hF := kl_rely hF h₁
      clear h₁
      rw [stepG_seq]
      simp only [goes_go]
      refine ⟨(by first | exact dc0_none (fun e he => by simp at he) | exact ds_none (fun e he => by simp at he) | exact d0_nil (fun e he => by simp at he) | exact dm_nil (fun e he => by simp at he)), ?_⟩
      refine Goes.step rfl (fun _ h₁ => ?_)
      replace hF := kl_rely hF h₁
      clear h₁
      rw [stepG_region]
      simp only [goes_go, List.size_toArray, List.length_cons, List.length_nil, Nat.reduceAdd, Nat.zero_add, List.range, List.range.loop]
      refine ⟨(by first | exact dc0_none (fun e he => by simp at he) | exact ds_none (fun e he => by simp at he) | exact d0_nil (fun e he => by simp at he) | exact dm_nil (fun e he => by simp at he)), ?_⟩
      refine Goes.stop (fun w₆ h₆ => ?_)
      replace hF := kl_rely hF h₆
      clear h₆
      refine ⟨rfl, _, stepG_mark0 .enable (by simp) rfl rfl (by k_ne) rfl H.f_enable (x_enable_n L) (x_enable_b L) (x_enable_x L) (x_enable_f L), 12, ?_⟩
      walk_nrm
      refine Goes.step rfl (fun _ h₁ => ?_)
      replace hF := kl_rely hF h₁
      clear h₁
      rw [stepG_region_end]
      simp only [goes_go]
      refine ⟨(by first | exact dc0_none (fun e he => by simp at he) | exact ds_none (fun e he => by simp at he) | exact d0_nil (fun e he => by simp at he) | exact dm_nil (fun e he => by simp at he)), ?_⟩
      refine Goes.step rfl (fun _ h₁ => ?_)
      replace hF := kl_rely hF h₁
      clear h₁
      rw [stepG_region]
      simp only [goes_go, List.size_toArray, List.length_cons, List.length_nil, Nat.reduceAdd, Nat.zero_add, List.range, List.range.loop]
      refine ⟨(by first | exact dc0_none (fun e he => by simp at he) | exact ds_none (fun e he => by simp at he) | exact d0_nil (fun e he => by simp at he) | exact dm_nil (fun e he => by simp at he)), ?_⟩
      refine Goes.step rfl (fun _ h₁ => ?_)
      replace hF := kl_rely hF h₁
      clear h₁
      refine goes_oper_k rfl rfl (by k_ne) (fun K hK => ?_)
      go_simp
      refine hK _ _ ⟨?_, ?_⟩
      · first | refine dc0_none ?_ | refine ds_none ?_ | refine d0_nil ?_ | refine dm_nil ?_
        intro e he
        have hm := mem_listed he
        simp [go_sem, *] at hm
      clear hK K
      try w_num
      refine Goes.step rfl (fun _ h₁ => ?_)
      replace hF := kl_rely hF h₁
      clear h₁
      refine goes_oper_k rfl rfl (by k_ne) (fun Kx hKx => ?_)
      have hcv := run_convert_to_unsafe (P := P) H.underlying_tWgP H.underlying_tUP H.room_tWg (WgLive.cell0 hF.2).choose_spec
      have hce := fun es => events_convert_to_unsafe (P := P) H.underlying_tWgP H.underlying_tUP H.room_tWg (WgLive.cell0 hF.2).choose_spec es
      go_simp
      refine hKx _ _ ⟨?_, ?_⟩
      · first | refine dc0_none ?_ | refine ds_none ?_ | refine d0_nil ?_ | refine dm_nil ?_
        intro ex hex
        have hmx := mem_listed hex
        simp [go_sem, hce] at hmx
      clear hKx Kx hcv hce
      refine Goes.stop (fun w₇ h₇ => ?_)
      replace hF := kl_rely hF h₇
      clear h₇
      refine ⟨rfl, _, stepG_markAt .acquire (by simp) rfl rfl (by k_ne) rfl H.f_acquire (x_acquire_n L) (x_acquire_b L) (x_acquire_x L) (x_acquire_f L) (by simp [Act.eval, stA]), mT + 10, ?_⟩
      walk_nrm
      refine Goes.step rfl (fun _ h₁ => ?_)
      replace hF := kl_rely hF h₁
      clear h₁
      rw [stepG_region_end]
      simp only [goes_go]
      refine ⟨(by first | exact dc0_none (fun e he => by simp at he) | exact ds_none (fun e he => by simp at he) | exact d0_nil (fun e he => by simp at he) | exact dm_nil (fun e he => by simp at he)), ?_⟩
      refine Goes.step rfl (fun _ h₁ => ?_)
      replace hF := kl_rely hF h₁
      clear h₁
      rw [stepG_seq]
      simp only [goes_go]
      refine ⟨(by first | exact dc0_none (fun e he => by simp at he) | exact ds_none (fun e he => by simp at he) | exact d0_nil (fun e he => by simp at he) | exact dm_nil (fun e he => by simp at he)), ?_⟩
      refine Goes.step rfl (fun _ h₁ => ?_)
      replace hF := kl_rely hF h₁
      clear h₁
      rw [stepG_seq]
      simp only [goes_go]
      refine ⟨(by first | exact dc0_none (fun e he => by simp at he) | exact ds_none (fun e he => by simp at he) | exact d0_nil (fun e he => by simp at he) | exact dm_nil (fun e he => by simp at he)), ?_⟩
      refine Goes.step rfl (fun _ h₁ => ?_)
      replace hF := kl_rely hF h₁
      clear h₁
      rw [stepG_region]
      simp only [goes_go, List.size_toArray, List.length_cons, List.length_nil, Nat.reduceAdd, Nat.zero_add, List.range, List.range.loop]
      refine ⟨(by first | exact dc0_none (fun e he => by simp at he) | exact ds_none (fun e he => by simp at he) | exact d0_nil (fun e he => by simp at he) | exact dm_nil (fun e he => by simp at he)), ?_⟩
      refine Goes.step rfl (fun _ h₁ => ?_)
      replace hF := kl_rely hF h₁
      clear h₁
      refine goes_oper_k rfl rfl (by k_ne) (fun K hK => ?_)
      go_simp
      refine hK _ _ ⟨?_, ?_⟩
      · first | refine dc0_none ?_ | refine ds_none ?_ | refine d0_nil ?_ | refine dm_nil ?_
        intro e he
        have hm := mem_listed he
        simp [go_sem, *] at hm
      clear hK K
      try w_num
      refine Goes.step rfl (fun _ h₁ => ?_)
      replace hF := kl_rely hF h₁
      clear h₁
      rw [stepG_region_end]
      simp only [goes_go]
      refine ⟨(by first | exact dc0_none (fun e he => by simp at he) | exact ds_none (fun e he => by simp at he) | exact d0_nil (fun e he => by simp at he) | exact dm_nil (fun e he => by simp at he)), ?_⟩
      refine Goes.step rfl (fun _ h₁ => ?_)
      replace hF := kl_rely hF h₁
      clear h₁
      rw [stepG_cond (t := false) rfl]
      simp only [goes_go, if_true, if_false, Bool.false_eq_true, ↓reduceIte]
      refine ⟨(by first | exact dc0_none (fun e he => by simp at he) | exact ds_none (fun e he => by simp at he) | exact d0_nil (fun e he => by simp at he) | exact dm_nil (fun e he => by simp at he)), ?_⟩
      refine Goes.step rfl (fun _ h₁ => ?_)
      replace hF := kl_rely hF h₁
      clear h₁
      rw [stepG_skip]
      simp only [goes_go]
      refine ⟨(by first | exact dc0_none (fun e he => by simp at he) | exact ds_none (fun e he => by simp at he) | exact d0_nil (fun e he => by simp at he) | exact dm_nil (fun e he => by simp at he)), ?_⟩
      refine Goes.step rfl (fun _ h₁ => ?_)
      replace hF := kl_rely hF h₁
      clear h₁
      rw [stepG_ret']
      simp only [goes_go]
      refine ⟨(by first | exact dc0_none (fun e he => by simp at he) | exact ds_none (fun e he => by simp at he) | exact d0_nil (fun e he => by simp at he) | exact dm_nil (fun e he => by simp at he)), ?_⟩
      refine Goes.step rfl (fun _ h₁ => ?_)
      replace hF := kl_rely hF h₁
      clear h₁
      refine goes_leave0 rfl rfl H.f_wait rfl ⟨(by first | exact dc0_none (fun e he => by simp at he) | exact ds_none (fun e he => by simp at he) | exact d0_nil (fun e he => by simp at he) | exact dm_nil (fun e he => by simp at he)), ?_⟩
      walk_nrm
      exact hT _ hF
    · refine ⟨_, stepG_cas_miss (v := (v' : Int) * KK) (old := S) (n := S + 1) rfl rfl (by k_ne) rfl H.f_casU64 (x_casU64_n L) (x_casU64_b L) (x_casU64_x L) .u64 (x_casU64_f L) rfl rfl rfl hw.cellSt (hw.thaw 0) (by rw [← hS]; simp only [KK]; omega), 20, ?_⟩
      clear hw
      walk_nrm
      refine Goes.step rfl (fun _ h₁ => ?_)
      replace hF := kl_rely hF h₁
      clear h₁
      refine goes_oper_k rfl rfl (by k_ne) (fun K hK => ?_)
      go_simp
      refine hK _ _ ⟨?_, ?_⟩
      · first | refine dc0_none ?_ | refine ds_none ?_ | refine d0_nil ?_ | refine dm_nil ?_
        intro e he
        have hm := mem_listed he
        simp [go_sem, *] at hm
      clear hK K
      try w_num
      refine Goes.step rfl (fun _ h₁ => ?_)
      replace hF := kl_rely hF h₁
      clear h₁
      rw [stepG_region_end]
      simp only [goes_go]
      refine ⟨(by first | exact dc0_none (fun e he => by simp at he) | exact ds_none (fun e he => by simp at he) | exact d0_nil (fun e he => by simp at he) | exact dm_nil (fun e he => by simp at he)), ?_⟩
      refine Goes.step rfl (fun _ h₁ => ?_)
      replace hF := kl_rely hF h₁
      clear h₁
      rw [stepG_ret']
      simp only [goes_go]
      refine ⟨(by first | exact dc0_none (fun e he => by simp at he) | exact ds_none (fun e he => by simp at he) | exact d0_nil (fun e he => by simp at he) | exact dm_nil (fun e he => by simp at he)), ?_⟩
      refine Goes.step rfl (fun _ h₁ => ?_)
      replace hF := kl_rely hF h₁
      clear h₁
      refine goes_leave1 rfl rfl H.f_uCas rfl ⟨(by first | exact dc0_none (fun e he => by simp at he) | exact ds_none (fun e he => by simp at he) | exact d0_nil (fun e he => by simp at he) | exact dm_nil (fun e he => by simp at he)), ?_⟩
      walk_nrm
      refine Goes.step rfl (fun _ h₁ => ?_)
      replace hF := kl_rely hF h₁
      clear h₁
      rw [stepG_region_end]
      simp only [goes_go]
      refine ⟨(by first | exact dc0_none (fun e he => by simp at he) | exact ds_none (fun e he => by simp at he) | exact d0_nil (fun e he => by simp at he) | exact dm_nil (fun e he => by simp at he)), ?_⟩
      refine Goes.step rfl (fun _ h₁ => ?_)
      replace hF := kl_rely hF h₁
      clear h₁
      rw [stepG_cond (t := false) rfl]
      simp only [goes_go, if_true, if_false, Bool.false_eq_true, ↓reduceIte]
      refine ⟨(by first | exact dc0_none (fun e he => by simp at he) | exact ds_none (fun e he => by simp at he) | exact d0_nil (fun e he => by simp at he) | exact dm_nil (fun e he => by simp at he)), ?_⟩
      refine Goes.step rfl (fun _ h₁ => ?_)
      replace hF := kl_rely hF h₁
      clear h₁
      rw [stepG_skip]
      simp only [goes_go]
      refine ⟨(by first | exact dc0_none (fun e he => by simp at he) | exact ds_none (fun e he => by simp at he) | exact d0_nil (fun e he => by simp at he) | exact dm_nil (fun e he => by simp at he)), ?_⟩
      refine Goes.step rfl (fun _ h₁ => ?_)
      replace hF := kl_rely hF h₁
      clear h₁
      rw [stepG_inBlock]
      simp only [goes_go]
      refine ⟨(by first | exact dc0_none (fun e he => by simp at he) | exact ds_none (fun e he => by simp at he) | exact d0_nil (fun e he => by simp at he) | exact dm_nil (fun e he => by simp at he)), ?_⟩
      refine Goes.step rfl (fun _ h₁ => ?_)
      replace hF := kl_rely hF h₁
      clear h₁
      rw [stepG_inLoop]
      simp only [goes_go]
      refine ⟨(by first | exact dc0_none (fun e he => by simp at he) | exact ds_none (fun e he => by simp at he) | exact d0_nil (fun e he => by simp at he) | exact dm_nil (fun e he => by simp at he)), ?_⟩
      refine Goes.stop (fun w₃ h₃ => ?_)
      replace hF := kl_rely hF h₃
      exact ⟨_, rfl, by simp, by simp, hF⟩
set_option maxRecDepth 100000 in
set_option maxHeartbeats 20000000 in
theorem waitStartP (H : WgLib P L) (ety : E.ty = L.tWg) (w : World) (hF : KL E Mine l w) :
    Goes P false (RM E Mine) (DM E Mine) (TDis P E Mine (AnchP L E Mine l (b₀.at a₀ (.inRegion ops₀ (i₀ :: rest₀) :: k₀)) cs)) 3 (G ((base L.wait).at ⟨#[.pointer (some ⟨E.Wg, 0, none⟩), undef, undef, undef, undef, undef, undef, undef, undef, undef, undef, undef, undef, undef, undef, undef, undef, undef, undef, undef, undef, undef, undef, undef, undef, undef, undef, undef, undef, undef, undef, undef, undef, undef, undef, undef, undef, undef, undef, undef, undef, undef, undef, undef, undef, undef, undef, undef, undef, undef, undef, undef, undef, undef, undef, undef, undef, undef, undef, undef, undef, undef, undef, undef, undef, undef, undef, undef, undef, undef, undef, undef, undef, undef, undef, undef, undef, undef, undef, undef, undef, undef, undef, undef], []⟩ [.code (body_wait L)]) (b₀.at a₀ (.inRegion ops₀ (i₀ :: rest₀) :: k₀) :: cs)) w := by
  lib_facts
  simp only [body_wait, waitFn, Option.getD_some]
  refine Goes.step rfl (fun _ h₁ => ?_)
  replace hF := kl_rely hF h₁
  clear h₁
  rw [stepG_seq]
  simp only [goes_go]
  refine ⟨(by first | exact dc0_none (fun e he => by simp at he) | exact ds_none (fun e he => by simp at he) | exact d0_nil (fun e he => by simp at he) | exact dm_nil (fun e he => by simp at he)), ?_⟩
  refine Goes.step rfl (fun _ h₁ => ?_)
  replace hF := kl_rely hF h₁
  clear h₁
  rw [stepG_cond (t := true) rfl]
  simp only [goes_go, if_true, if_false, Bool.false_eq_true, ↓reduceIte]
  refine ⟨(by first | exact dc0_none (fun e he => by simp at he) | exact ds_none (fun e he => by simp at he) | exact d0_nil (fun e he => by simp at he) | exact dm_nil (fun e he => by simp at he)), ?_⟩
  refine Goes.step rfl (fun _ h₁ => ?_)
  replace hF := kl_rely hF h₁
  clear h₁
  rw [stepG_region]
  simp only [goes_go, List.size_toArray, List.length_cons, List.length_nil, Nat.reduceAdd, Nat.zero_add, List.range, List.range.loop]
  refine ⟨(by first | exact dc0_none (fun e he => by simp at he) | exact ds_none (fun e he => by simp at he) | exact d0_nil (fun e he => by simp at he) | exact dm_nil (fun e he => by simp at he)), ?_⟩
  refine Goes.stop (fun w₁ h₁ => ?_)
  replace hF := kl_rely hF h₁
  clear h₁
  refine ⟨rfl, _, stepG_mark0 .disable (by simp) rfl rfl (by k_ne) rfl H.f_disable (x_disable_n L) (x_disable_b L) (x_disable_x L) (x_disable_f L), 3, ?_⟩
  walk_nrm
  refine Goes.step rfl (fun _ h₁ => ?_)
  replace hF := kl_rely hF h₁
  clear h₁
  rw [stepG_region_end]
  simp only [goes_go]
  refine ⟨(by first | exact dc0_none (fun e he => by simp at he) | exact ds_none (fun e he => by simp at he) | exact d0_nil (fun e he => by simp at he) | exact dm_nil (fun e he => by simp at he)), ?_⟩
  refine Goes.step rfl (fun _ h₁ => ?_)
  replace hF := kl_rely hF h₁
  clear h₁
  rw [stepG_block]
  simp only [goes_go]
  refine ⟨(by first | exact dc0_none (fun e he => by simp at he) | exact ds_none (fun e he => by simp at he) | exact d0_nil (fun e he => by simp at he) | exact dm_nil (fun e he => by simp at he)), ?_⟩
  refine Goes.step rfl (fun _ h₁ => ?_)
  replace hF := kl_rely hF h₁
  clear h₁
  rw [stepG_loop]
  simp only [goes_go]
  refine ⟨(by first | exact dc0_none (fun e he => by simp at he) | exact ds_none (fun e he => by simp at he) | exact d0_nil (fun e he => by simp at he) | exact dm_nil (fun e he => by simp at he)), ?_⟩
  exact Goes.stop (fun w₂ h₂ => ⟨_, rfl, by simp, by simp, kl_rely hF h₂⟩)
end Go.Proofs.Ytiobhgemjbjipaa
