/- sync.WaitGroup under this call's own rely: its words; Add(-1). Printed by gen_wg.py. Conditions stand as premises. -/
import Derived.Test.YtiobhgemjbjipaaPmPumpSpec
import Derived.Conc.WgGenN3
set_option linter.unusedSimpArgs false
set_option linter.unusedVariables false
namespace Go.Proofs.Ytiobhgemjbjipaa
open Go.Conc Go.RowKit Go.Conc.Lib Go.ConcR.Gen Go.ConcN.Gen
open Go.ConcR (KK wgBlock WgAt stA smA rd wr mk DC0)
open Go.ConcN (WgLive st_flag st_waiters)
variable {P : Program} {L : WgLink} {E : PE} {Mine : Nat → Prop} {c : Frame} {cs : List Frame} {qt mT : Nat} {b₀ : Frame} {a₀ : Act} {ops₀ : Array Oper} {i₀ : Nat} {rest₀ : List Nat} {k₀ : List Item}
theorem lv_rely {w w₁ : World} (h : WgLive E.ty E.Wg w) (r : RM E Mine w w₁) : WgLive E.ty E.Wg w₁ := r.live h
theorem wgAt_to {ty : TypeId} {Wg : Nat} {w : World} {a b a' b' : Int} (h : WgAt ty Wg w a b) (ha : a = a') (hb : b = b') : WgAt ty Wg w a' b' := by subst ha hb; exact h
theorem ds_none {m : Addr → Mark} {w : World} {es : Array Event} (h : ∀ e ∈ es, False) : DS E m w w es := ⟨rfl, fun e he => (h e he).elim⟩
theorem d0_nil {N : Nat} {w : World} {es : Array Event} (h : ∀ e ∈ es, False) : D0 E N w w es := d0_dc0 (dc0_none h)
theorem dm_nil {w : World} {es : Array Event} (h : ∀ e ∈ es, False) : DM E Mine w w es := dm_dc0 (dc0_none h)
set_option maxRecDepth 100000 in
set_option maxHeartbeats 20000000 in
theorem addNegP (H : WgLib P L) (ety : E.ty = L.tWg) (hT : QuitsD P qt 0 (G (b₀.at (a₀.put ((ops₀[i₀]?).bind (·.dst)) (.tuple #[])) (.inRegion ops₀ rest₀ :: k₀)) cs)) (w : World) (hF : WgLive E.ty E.Wg w) :
    Goes P false (RM E Mine) DC0 (WRel P E Mine) 20 (G ((base L.add).at ⟨#[.pointer (some ⟨E.Wg, 0, none⟩), .int .i64 (-1), undef, undef, undef, undef, undef, undef, undef, undef, undef, undef, undef, undef, undef, undef, undef, undef, undef, undef, undef, undef, undef, undef, undef, undef, undef, undef, undef, undef, undef, undef, undef, undef, undef, undef, undef, undef, undef, undef, undef, undef, undef, undef, undef, undef, undef, undef, undef, undef, undef, undef, undef, undef, undef, undef, undef, undef, undef, undef, undef, undef, undef, undef, undef, undef, undef, undef, undef, undef, undef, undef, undef, undef, undef, undef, undef, undef, undef, undef, undef, undef, undef, undef, undef, undef, undef, undef, undef, undef, undef, undef, undef, undef, undef, undef, undef, undef, undef, undef, undef, undef, undef, undef, undef, undef, undef, undef, undef, undef, undef, undef, undef, undef, undef, undef, undef], []⟩ [.code (body_add L)]) (b₀.at a₀ (.inRegion ops₀ (i₀ :: rest₀) :: k₀) :: cs)) w := by
  lib_facts
  simp only [body_add, addFn, Option.getD_some]
  refine Goes.step rfl (fun _ h₁ => ?_)
  replace hF := lv_rely hF h₁
  clear h₁
  rw [stepG_seq]
  simp only [goes_go]
  refine ⟨(by first | exact dc0_none (fun e he => by simp at he) | exact ds_none (fun e he => by simp at he) | exact d0_nil (fun e he => by simp at he) | exact dm_nil (fun e he => by simp at he)), ?_⟩
  refine Goes.step rfl (fun _ h₁ => ?_)
  replace hF := lv_rely hF h₁
  clear h₁
  rw [stepG_cond (t := true) rfl]
  simp only [goes_go, if_true, if_false, Bool.false_eq_true, ↓reduceIte]
  refine ⟨(by first | exact dc0_none (fun e he => by simp at he) | exact ds_none (fun e he => by simp at he) | exact d0_nil (fun e he => by simp at he) | exact dm_nil (fun e he => by simp at he)), ?_⟩
  refine Goes.step rfl (fun _ h₁ => ?_)
  replace hF := lv_rely hF h₁
  clear h₁
  rw [stepG_seq]
  simp only [goes_go]
  refine ⟨(by first | exact dc0_none (fun e he => by simp at he) | exact ds_none (fun e he => by simp at he) | exact d0_nil (fun e he => by simp at he) | exact dm_nil (fun e he => by simp at he)), ?_⟩
  refine Goes.step rfl (fun _ h₁ => ?_)
  replace hF := lv_rely hF h₁
  clear h₁
  rw [stepG_seq]
  simp only [goes_go]
  refine ⟨(by first | exact dc0_none (fun e he => by simp at he) | exact ds_none (fun e he => by simp at he) | exact d0_nil (fun e he => by simp at he) | exact dm_nil (fun e he => by simp at he)), ?_⟩
  refine Goes.step rfl (fun _ h₁ => ?_)
  replace hF := lv_rely hF h₁
  clear h₁
  rw [stepG_region]
  simp only [goes_go, List.size_toArray, List.length_cons, List.length_nil, Nat.reduceAdd, Nat.zero_add, List.range, List.range.loop]
  refine ⟨(by first | exact dc0_none (fun e he => by simp at he) | exact ds_none (fun e he => by simp at he) | exact d0_nil (fun e he => by simp at he) | exact dm_nil (fun e he => by simp at he)), ?_⟩
  refine Goes.step rfl (fun _ h₁ => ?_)
  replace hF := lv_rely hF h₁
  clear h₁
  refine goes_oper_k rfl rfl (by k_ne) (fun K hK => ?_)
  go_simp
  refine hK _ _ ⟨?_, ?_⟩
  · first | refine dc0_none ?_ | refine ds_none ?_ | refine d0_nil ?_ | refine dm_nil ?_
    intro e he
    have hm := mem_listed he
    simp [go_sem, *] at hm
  clear hK K
  try w_num
  refine Goes.step rfl (fun _ h₁ => ?_)
  replace hF := lv_rely hF h₁
  clear h₁
  refine goes_oper_k rfl rfl (by k_ne) (fun K hK => ?_)
  go_simp
  refine hK _ _ ⟨?_, ?_⟩
  · first | refine dc0_none ?_ | refine ds_none ?_ | refine d0_nil ?_ | refine dm_nil ?_
    intro e he
    have hm := mem_listed he
    simp [go_sem, *] at hm
  clear hK K
  try w_num
  refine Goes.step rfl (fun _ h₁ => ?_)
  replace hF := lv_rely hF h₁
  clear h₁
  rw [stepG_region_end]
  simp only [goes_go]
  refine ⟨(by first | exact dc0_none (fun e he => by simp at he) | exact ds_none (fun e he => by simp at he) | exact d0_nil (fun e he => by simp at he) | exact dm_nil (fun e he => by simp at he)), ?_⟩
  refine Goes.step rfl (fun _ h₁ => ?_)
  replace hF := lv_rely hF h₁
  clear h₁
  rw [stepG_cond (t := true) rfl]
  simp only [goes_go, if_true, if_false, Bool.false_eq_true, ↓reduceIte]
  refine ⟨(by first | exact dc0_none (fun e he => by simp at he) | exact ds_none (fun e he => by simp at he) | exact d0_nil (fun e he => by simp at he) | exact dm_nil (fun e he => by simp at he)), ?_⟩
  refine Goes.step rfl (fun _ h₁ => ?_)
  replace hF := lv_rely hF h₁
  clear h₁
  rw [stepG_region]
  simp only [goes_go, List.size_toArray, List.length_cons, List.length_nil, Nat.reduceAdd, Nat.zero_add, List.range, List.range.loop]
  refine ⟨(by first | exact dc0_none (fun e he => by simp at he) | exact ds_none (fun e he => by simp at he) | exact d0_nil (fun e he => by simp at he) | exact dm_nil (fun e he => by simp at he)), ?_⟩
  refine Goes.step rfl (fun _ h₁ => ?_)
  replace hF := lv_rely hF h₁
  clear h₁
  refine goes_oper_k rfl rfl (by k_ne) (fun K hK => ?_)
  go_simp
  refine hK _ _ ⟨?_, ?_⟩
  · first | refine dc0_none ?_ | refine ds_none ?_ | refine d0_nil ?_ | refine dm_nil ?_
    intro e he
    have hm := mem_listed he
    simp [go_sem, *] at hm
  clear hK K
  try w_num
  refine Goes.step rfl (fun _ h₁ => ?_)
  replace hF := lv_rely hF h₁
  clear h₁
  refine goes_oper_k rfl rfl (by k_ne) (fun Kx hKx => ?_)
  have hcv := run_convert_to_unsafe (P := P) H.underlying_tWgP H.underlying_tUP H.room_tWg (WgLive.cell0 hF).choose_spec
  have hce := fun es => events_convert_to_unsafe (P := P) H.underlying_tWgP H.underlying_tUP H.room_tWg (WgLive.cell0 hF).choose_spec es
  go_simp
  refine hKx _ _ ⟨?_, ?_⟩
  · first | refine dc0_none ?_ | refine ds_none ?_ | refine d0_nil ?_ | refine dm_nil ?_
    intro ex hex
    have hmx := mem_listed hex
    simp [go_sem, hce] at hmx
  clear hKx Kx hcv hce
  refine Goes.stop (fun w1 h₁ => ?_)
  replace hF := lv_rely hF h₁
  clear h₁
  refine ⟨rfl, _, stepG_markAt .releaseMerge (by simp) rfl rfl (by k_ne) rfl H.f_relMerge (x_relMerge_n L) (x_relMerge_b L) (x_relMerge_x L) (x_relMerge_f L) (by simp [Act.eval, stA]), 10, ?_⟩
  walk_nrm
  refine Goes.step rfl (fun _ h₁ => ?_)
  replace hF := lv_rely hF h₁
  clear h₁
  rw [stepG_region_end]
  simp only [goes_go]
  refine ⟨(by first | exact dc0_none (fun e he => by simp at he) | exact ds_none (fun e he => by simp at he) | exact d0_nil (fun e he => by simp at he) | exact dm_nil (fun e he => by simp at he)), ?_⟩
  refine Goes.step rfl (fun _ h₁ => ?_)
  replace hF := lv_rely hF h₁
  clear h₁
  rw [stepG_seq]
  simp only [goes_go]
  refine ⟨(by first | exact dc0_none (fun e he => by simp at he) | exact ds_none (fun e he => by simp at he) | exact d0_nil (fun e he => by simp at he) | exact dm_nil (fun e he => by simp at he)), ?_⟩
  refine Goes.step rfl (fun _ h₁ => ?_)
  replace hF := lv_rely hF h₁
  clear h₁
  rw [stepG_region]
  simp only [goes_go, List.size_toArray, List.length_cons, List.length_nil, Nat.reduceAdd, Nat.zero_add, List.range, List.range.loop]
  refine ⟨(by first | exact dc0_none (fun e he => by simp at he) | exact ds_none (fun e he => by simp at he) | exact d0_nil (fun e he => by simp at he) | exact dm_nil (fun e he => by simp at he)), ?_⟩
  refine Goes.stop (fun w2 h₁ => ?_)
  replace hF := lv_rely hF h₁
  clear h₁
  refine ⟨rfl, _, stepG_mark0 .disable (by simp) rfl rfl (by k_ne) rfl H.f_disable (x_disable_n L) (x_disable_b L) (x_disable_x L) (x_disable_f L), 50, ?_⟩
  walk_nrm
  refine Goes.step rfl (fun _ h₁ => ?_)
  replace hF := lv_rely hF h₁
  clear h₁
  rw [stepG_region_end]
  simp only [goes_go]
  refine ⟨(by first | exact dc0_none (fun e he => by simp at he) | exact ds_none (fun e he => by simp at he) | exact d0_nil (fun e he => by simp at he) | exact dm_nil (fun e he => by simp at he)), ?_⟩
  refine Goes.step rfl (fun _ h₁ => ?_)
  replace hF := lv_rely hF h₁
  clear h₁
  rw [stepG_region]
  simp only [goes_go, List.size_toArray, List.length_cons, List.length_nil, Nat.reduceAdd, Nat.zero_add, List.range, List.range.loop]
  refine ⟨(by first | exact dc0_none (fun e he => by simp at he) | exact ds_none (fun e he => by simp at he) | exact d0_nil (fun e he => by simp at he) | exact dm_nil (fun e he => by simp at he)), ?_⟩
  refine Goes.step rfl (fun _ h₁ => ?_)
  replace hF := lv_rely hF h₁
  clear h₁
  rw [stepG_defer rfl rfl (by k_ne) rfl]
  simp only [goes_go]
  refine ⟨(by first | exact dc0_none (fun e he => by simp at he) | exact ds_none (fun e he => by simp at he) | exact d0_nil (fun e he => by simp at he) | exact dm_nil (fun e he => by simp at he)), ?_⟩
  walk_nrm
  refine Goes.step rfl (fun _ h₁ => ?_)
  replace hF := lv_rely hF h₁
  clear h₁
  rw [stepG_region_end]
  simp only [goes_go]
  refine ⟨(by first | exact dc0_none (fun e he => by simp at he) | exact ds_none (fun e he => by simp at he) | exact d0_nil (fun e he => by simp at he) | exact dm_nil (fun e he => by simp at he)), ?_⟩
  refine Goes.step rfl (fun _ h₁ => ?_)
  replace hF := lv_rely hF h₁
  clear h₁
  rw [stepG_seq]
  simp only [goes_go]
  refine ⟨(by first | exact dc0_none (fun e he => by simp at he) | exact ds_none (fun e he => by simp at he) | exact d0_nil (fun e he => by simp at he) | exact dm_nil (fun e he => by simp at he)), ?_⟩
  refine Goes.step rfl (fun _ h₁ => ?_)
  replace hF := lv_rely hF h₁
  clear h₁
  rw [stepG_region]
  simp only [goes_go, List.size_toArray, List.length_cons, List.length_nil, Nat.reduceAdd, Nat.zero_add, List.range, List.range.loop]
  refine ⟨(by first | exact dc0_none (fun e he => by simp at he) | exact ds_none (fun e he => by simp at he) | exact d0_nil (fun e he => by simp at he) | exact dm_nil (fun e he => by simp at he)), ?_⟩
  refine Goes.step rfl (fun _ h₁ => ?_)
  replace hF := lv_rely hF h₁
  clear h₁
  refine goes_oper_k rfl rfl (by k_ne) (fun K hK => ?_)
  go_simp
  refine hK _ _ ⟨?_, ?_⟩
  · first | refine dc0_none ?_ | refine ds_none ?_ | refine d0_nil ?_ | refine dm_nil ?_
    intro e he
    have hm := mem_listed he
    simp [go_sem, *] at hm
  clear hK K
  try w_num
  refine Goes.step rfl (fun _ h₁ => ?_)
  replace hF := lv_rely hF h₁
  clear h₁
  rw [stepG_region_end]
  simp only [goes_go]
  refine ⟨(by first | exact dc0_none (fun e he => by simp at he) | exact ds_none (fun e he => by simp at he) | exact d0_nil (fun e he => by simp at he) | exact dm_nil (fun e he => by simp at he)), ?_⟩
  refine Goes.step rfl (fun _ h₁ => ?_)
  replace hF := lv_rely hF h₁
  clear h₁
  rw [stepG_seq]
  simp only [goes_go]
  refine ⟨(by first | exact dc0_none (fun e he => by simp at he) | exact ds_none (fun e he => by simp at he) | exact d0_nil (fun e he => by simp at he) | exact dm_nil (fun e he => by simp at he)), ?_⟩
  refine Goes.step rfl (fun _ h₁ => ?_)
  replace hF := lv_rely hF h₁
  clear h₁
  rw [stepG_seq]
  simp only [goes_go]
  refine ⟨(by first | exact dc0_none (fun e he => by simp at he) | exact ds_none (fun e he => by simp at he) | exact d0_nil (fun e he => by simp at he) | exact dm_nil (fun e he => by simp at he)), ?_⟩
  refine Goes.step rfl (fun _ h₁ => ?_)
  replace hF := lv_rely hF h₁
  clear h₁
  rw [stepG_region]
  simp only [goes_go, List.size_toArray, List.length_cons, List.length_nil, Nat.reduceAdd, Nat.zero_add, List.range, List.range.loop]
  refine ⟨(by first | exact dc0_none (fun e he => by simp at he) | exact ds_none (fun e he => by simp at he) | exact d0_nil (fun e he => by simp at he) | exact dm_nil (fun e he => by simp at he)), ?_⟩
  refine Goes.step rfl (fun _ h₁ => ?_)
  replace hF := lv_rely hF h₁
  clear h₁
  rw [stepG_entry_pure (.bool false) rfl rfl (by k_ne) rfl H.f_inBubble (x_inBubble_n L) (x_inBubble_b L) (x_inBubble_x L) (x_inBubble_f L)]
  simp only [goes_go]
  refine ⟨(by first | exact dc0_none (fun e he => by simp at he) | exact ds_none (fun e he => by simp at he) | exact d0_nil (fun e he => by simp at he) | exact dm_nil (fun e he => by simp at he)), ?_⟩
  walk_nrm
  refine Goes.step rfl (fun _ h₁ => ?_)
  replace hF := lv_rely hF h₁
  clear h₁
  rw [stepG_region_end]
  simp only [goes_go]
  refine ⟨(by first | exact dc0_none (fun e he => by simp at he) | exact ds_none (fun e he => by simp at he) | exact d0_nil (fun e he => by simp at he) | exact dm_nil (fun e he => by simp at he)), ?_⟩
  refine Goes.step rfl (fun _ h₁ => ?_)
  replace hF := lv_rely hF h₁
  clear h₁
  rw [stepG_cond (t := false) rfl]
  simp only [goes_go, if_true, if_false, Bool.false_eq_true, ↓reduceIte]
  refine ⟨(by first | exact dc0_none (fun e he => by simp at he) | exact ds_none (fun e he => by simp at he) | exact d0_nil (fun e he => by simp at he) | exact dm_nil (fun e he => by simp at he)), ?_⟩
  refine Goes.step rfl (fun _ h₁ => ?_)
  replace hF := lv_rely hF h₁
  clear h₁
  rw [stepG_skip]
  simp only [goes_go]
  refine ⟨(by first | exact dc0_none (fun e he => by simp at he) | exact ds_none (fun e he => by simp at he) | exact d0_nil (fun e he => by simp at he) | exact dm_nil (fun e he => by simp at he)), ?_⟩
  refine Goes.step rfl (fun _ h₁ => ?_)
  replace hF := lv_rely hF h₁
  clear h₁
  rw [stepG_seq]
  simp only [goes_go]
  refine ⟨(by first | exact dc0_none (fun e he => by simp at he) | exact ds_none (fun e he => by simp at he) | exact d0_nil (fun e he => by simp at he) | exact dm_nil (fun e he => by simp at he)), ?_⟩
  refine Goes.step rfl (fun _ h₁ => ?_)
  replace hF := lv_rely hF h₁
  clear h₁
  rw [stepG_region]
  simp only [goes_go, List.size_toArray, List.length_cons, List.length_nil, Nat.reduceAdd, Nat.zero_add, List.range, List.range.loop]
  refine ⟨(by first | exact dc0_none (fun e he => by simp at he) | exact ds_none (fun e he => by simp at he) | exact d0_nil (fun e he => by simp at he) | exact dm_nil (fun e he => by simp at he)), ?_⟩
  refine Goes.step rfl (fun _ h₁ => ?_)
  replace hF := lv_rely hF h₁
  clear h₁
  refine goes_oper_k rfl rfl (by k_ne) (fun K hK => ?_)
  go_simp
  refine hK _ _ ⟨?_, ?_⟩
  · first | refine dc0_none ?_ | refine ds_none ?_ | refine d0_nil ?_ | refine dm_nil ?_
    intro e he
    have hm := mem_listed he
    simp [go_sem, *] at hm
  clear hK K
  try w_num
  refine Goes.step rfl (fun _ h₁ => ?_)
  replace hF := lv_rely hF h₁
  clear h₁
  refine goes_oper_k rfl rfl (by k_ne) (fun K hK => ?_)
  go_simp
  refine hK _ _ ⟨?_, ?_⟩
  · first | refine dc0_none ?_ | refine ds_none ?_ | refine d0_nil ?_ | refine dm_nil ?_
    intro e he
    have hm := mem_listed he
    simp [go_sem, *] at hm
  clear hK K
  try w_num
  refine Goes.step rfl (fun _ h₁ => ?_)
  replace hF := lv_rely hF h₁
  clear h₁
  refine goes_oper_k rfl rfl (by k_ne) (fun K hK => ?_)
  go_simp
  refine hK _ _ ⟨?_, ?_⟩
  · first | refine dc0_none ?_ | refine ds_none ?_ | refine d0_nil ?_ | refine dm_nil ?_
    intro e he
    have hm := mem_listed he
    simp [go_sem, *] at hm
  clear hK K
  try w_num
  refine Goes.step rfl (fun _ h₁ => ?_)
  replace hF := lv_rely hF h₁
  clear h₁
  refine goes_oper_k rfl rfl (by k_ne) (fun K hK => ?_)
  go_simp
  refine hK _ _ ⟨?_, ?_⟩
  · first | refine dc0_none ?_ | refine ds_none ?_ | refine d0_nil ?_ | refine dm_nil ?_
    intro e he
    have hm := mem_listed he
    simp [go_sem, *] at hm
  clear hK K
  try w_num
  refine Goes.step rfl (fun _ h₁ => ?_)
  replace hF := lv_rely hF h₁
  clear h₁
  refine goes_oper_k rfl rfl (by k_ne) (fun K hK => ?_)
  go_simp
  refine hK _ _ ⟨?_, ?_⟩
  · first | refine dc0_none ?_ | refine ds_none ?_ | refine d0_nil ?_ | refine dm_nil ?_
    intro e he
    have hm := mem_listed he
    simp [go_sem, *] at hm
  clear hK K
  try w_num
  refine Goes.step rfl (fun _ h₁ => ?_)
  replace hF := lv_rely hF h₁
  clear h₁
  refine goes_oper_k rfl rfl (by k_ne) (fun K hK => ?_)
  go_simp
  refine hK _ _ ⟨?_, ?_⟩
  · first | refine dc0_none ?_ | refine ds_none ?_ | refine d0_nil ?_ | refine dm_nil ?_
    intro e he
    have hm := mem_listed he
    simp [go_sem, *] at hm
  clear hK K
  try w_num
  refine Goes.step rfl (fun _ h₁ => ?_)
  replace hF := lv_rely hF h₁
  clear h₁
  refine goes_call rfl rfl (by k_ne) rfl H.f_uAdd (nm_uAdd L) rfl ⟨(by first | exact dc0_none (fun e he => by simp at he) | exact ds_none (fun e he => by simp at he) | exact d0_nil (fun e he => by simp at he) | exact dm_nil (fun e he => by simp at he)), ?_⟩
  walk_nrmf uAddFn
  refine Goes.step rfl (fun _ h₁ => ?_)
  replace hF := lv_rely hF h₁
  clear h₁
  rw [stepG_seq]
  simp only [goes_go]
  refine ⟨(by first | exact dc0_none (fun e he => by simp at he) | exact ds_none (fun e he => by simp at he) | exact d0_nil (fun e he => by simp at he) | exact dm_nil (fun e he => by simp at he)), ?_⟩
  refine Goes.step rfl (fun _ h₁ => ?_)
  replace hF := lv_rely hF h₁
  clear h₁
  rw [stepG_region]
  simp only [goes_go, List.size_toArray, List.length_cons, List.length_nil, Nat.reduceAdd, Nat.zero_add, List.range, List.range.loop]
  refine ⟨(by first | exact dc0_none (fun e he => by simp at he) | exact ds_none (fun e he => by simp at he) | exact d0_nil (fun e he => by simp at he) | exact dm_nil (fun e he => by simp at he)), ?_⟩
  refine Goes.step rfl (fun _ h₁ => ?_)
  replace hF := lv_rely hF h₁
  clear h₁
  refine goes_oper_k rfl rfl (by k_ne) (fun K hK => ?_)
  go_simp
  refine hK _ _ ⟨?_, ?_⟩
  · first | refine dc0_none ?_ | refine ds_none ?_ | refine d0_nil ?_ | refine dm_nil ?_
    intro e he
    have hm := mem_listed he
    simp [go_sem, *] at hm
  clear hK K
  try w_num
  refine Goes.step rfl (fun _ h₁ => ?_)
  replace hF := lv_rely hF h₁
  clear h₁
  rw [stepG_region_end]
  simp only [goes_go]
  refine ⟨(by first | exact dc0_none (fun e he => by simp at he) | exact ds_none (fun e he => by simp at he) | exact d0_nil (fun e he => by simp at he) | exact dm_nil (fun e he => by simp at he)), ?_⟩
  refine Goes.step rfl (fun _ h₁ => ?_)
  replace hF := lv_rely hF h₁
  clear h₁
  rw [stepG_seq]
  simp only [goes_go]
  refine ⟨(by first | exact dc0_none (fun e he => by simp at he) | exact ds_none (fun e he => by simp at he) | exact d0_nil (fun e he => by simp at he) | exact dm_nil (fun e he => by simp at he)), ?_⟩
  refine Goes.step rfl (fun _ h₁ => ?_)
  replace hF := lv_rely hF h₁
  clear h₁
  rw [stepG_region]
  simp only [goes_go, List.size_toArray, List.length_cons, List.length_nil, Nat.reduceAdd, Nat.zero_add, List.range, List.range.loop]
  refine ⟨(by first | exact dc0_none (fun e he => by simp at he) | exact ds_none (fun e he => by simp at he) | exact d0_nil (fun e he => by simp at he) | exact dm_nil (fun e he => by simp at he)), ?_⟩
  refine Goes.step rfl (fun _ h₁ => ?_)
  replace hF := lv_rely hF h₁
  clear h₁
  refine goes_oper_k rfl rfl (by k_ne) (fun K hK => ?_)
  go_simp
  refine hK _ _ ⟨?_, ?_⟩
  · first | refine dc0_none ?_ | refine ds_none ?_ | refine d0_nil ?_ | refine dm_nil ?_
    intro e he
    have hm := mem_listed he
    simp [go_sem, *] at hm
  clear hK K
  try w_num
  refine Goes.step rfl (fun _ h₁ => ?_)
  replace hF := lv_rely hF h₁
  clear h₁
  refine goes_oper_k rfl rfl (by k_ne) (fun K hK => ?_)
  go_simp
  refine hK _ _ ⟨?_, ?_⟩
  · first | refine dc0_none ?_ | refine ds_none ?_ | refine d0_nil ?_ | refine dm_nil ?_
    intro e he
    have hm := mem_listed he
    simp [go_sem, *] at hm
  clear hK K
  try w_num
  refine Goes.step rfl (fun _ h₁ => ?_)
  replace hF := lv_rely hF h₁
  clear h₁
  refine goes_oper_k rfl rfl (by k_ne) (fun K hK => ?_)
  go_simp
  refine hK _ _ ⟨?_, ?_⟩
  · first | refine dc0_none ?_ | refine ds_none ?_ | refine d0_nil ?_ | refine dm_nil ?_
    intro e he
    have hm := mem_listed he
    simp [go_sem, *] at hm
  clear hK K
  try w_num
  refine Goes.step rfl (fun _ h₁ => ?_)
  replace hF := lv_rely hF h₁
  clear h₁
  refine goes_oper_k rfl rfl (by k_ne) (fun K hK => ?_)
  go_simp
  refine hK _ _ ⟨?_, ?_⟩
  · first | refine dc0_none ?_ | refine ds_none ?_ | refine d0_nil ?_ | refine dm_nil ?_
    intro e he
    have hm := mem_listed he
    simp [go_sem, *] at hm
  clear hK K
  try w_num
  refine Goes.stop (fun w₁ h₁ => ?_)
  clear h₁ hF
  refine ⟨rfl, fun v wt hwt hv hw => ?_⟩
  have e0 : IntKind.u64.wrap (KK + 18446744069414584320) = 0 := by decide
  have e1 : IntKind.u64.wrap (KK + 1 + 18446744069414584320) = 1 := by decide
  rcases Nat.eq_zero_or_pos v with rfl | hvp <;> (obtain rfl | rfl : wt = 0 ∨ wt = 1 := by omega)
  · replace hw := wgAt_to hw (show _ = KK by simp) rfl
    have z : ((0 : Nat) : Int) * KK + ((0 : Nat) : Int) = 0 := by simp
    rw [z]
    refine ⟨_, (stepG_add_atomic rfl rfl (by k_ne) rfl H.f_addU64 (x_addU64_n L) (x_addU64_b L) (x_addU64_x L) .u64 (x_addU64_f L) rfl rfl hw.cellSt (hw.thaw 0)).trans (by rw [e0]; rfl), fun hl => absurd hl.2 (by decide), fun _ => ⟨qt + 89, ?_⟩⟩
    clear hw
    walk_nrm
    q_val (.int .u64 0)
    q_c stepG_region_end
    q_c stepG_ret'
    q_leave1 H.f_uAdd
    q_val (.int .u64 0)
    q_c stepG_region_end
    q_c stepG_seq
    q_c stepG_seq
    q_reg
    q_val (.int .u64 0)
    q_val (.int .u64 0)
    q_val (.bool false)
    q_val (.bool false)
    q_skip
    q_skip
    q_val (.bool false)
    q_c stepG_region_end
    q_cond false
    q_c stepG_skip
    q_c stepG_seq
    q_reg
    q_val (.int .u64 0)
    q_val (.int .u64 0)
    q_val (.int .i32 0)
    q_val (.int .i32 0)
    q_c stepG_region_end
    q_c stepG_seq
    q_reg
    q_val (.int .u64 0)
    q_val (.int .u64 0)
    q_val (.int .u32 0)
    q_val (.int .u32 0)
    q_c stepG_region_end
    q_c stepG_seq
    q_c stepG_seq
    q_reg
    q_val (.bool true)
    q_val (.int .i64 (-1))
    q_val (.bool false)
    q_val (.bool false)
    q_val (.bool false)
    q_skip
    q_skip
    q_skip
    q_skip
    q_val (.bool false)
    q_c stepG_region_end
    q_cond false
    q_c stepG_skip
    q_c stepG_seq
    q_c stepG_seq
    q_reg
    q_val (.int .i32 0)
    q_val (.bool false)
    q_c stepG_region_end
    q_cond false
    q_c stepG_skip
    q_c stepG_seq
    q_c stepG_seq
    q_reg
    q_val (.int .u32 0)
    q_val (.bool false)
    q_val (.bool false)
    q_skip
    q_skip
    q_val (.bool false)
    q_val (.bool false)
    q_skip
    q_skip
    q_skip
    q_skip
    q_val (.bool false)
    q_c stepG_region_end
    q_cond false
    q_c stepG_skip
    q_c stepG_seq
    q_c stepG_seq
    q_reg
    q_val (.int .i32 0)
    q_val (.bool false)
    q_val (.bool false)
    q_val (.int .u32 0)
    q_val (.bool true)
    q_val (.bool true)
    q_c stepG_region_end
    q_cond true
    q_c stepG_ret'
    q_enable
    q_leave0 H.f_add
    exact hT
  · replace hw := wgAt_to hw (show _ = KK + 1 by simp) rfl
    have z : ((0 : Nat) : Int) * KK + ((1 : Nat) : Int) = 1 := by simp
    rw [z]
    refine ⟨_, (stepG_add_atomic rfl rfl (by k_ne) rfl H.f_addU64 (x_addU64_n L) (x_addU64_b L) (x_addU64_x L) .u64 (x_addU64_f L) rfl rfl hw.cellSt (hw.thaw 0)).trans (by rw [e1]; rfl), fun _ => ⟨120, ?_⟩, fun hl => absurd ⟨rfl, rfl⟩ hl⟩
    have hF : WgLive E.ty E.Wg (w₁.setCell (stA E.Wg) (.int .u64 1)) := ⟨_, _, hw.setSt 1⟩
    clear hw
    walk_nrm
    refine Goes.step rfl (fun _ h₁ => ?_)
    replace hF := lv_rely hF h₁
    clear h₁
    refine goes_oper_k rfl rfl (by k_ne) (fun K hK => ?_)
    go_simp
    refine hK _ _ ⟨?_, ?_⟩
    · first | refine dc0_none ?_ | refine ds_none ?_ | refine d0_nil ?_ | refine dm_nil ?_
      intro e he
      have hm := mem_listed he
      simp [go_sem, *] at hm
    clear hK K
    try w_num
    refine Goes.step rfl (fun _ h₁ => ?_)
    replace hF := lv_rely hF h₁
    clear h₁
    rw [stepG_region_end]
    simp only [goes_go]
    refine ⟨(by first | exact dc0_none (fun e he => by simp at he) | exact ds_none (fun e he => by simp at he) | exact d0_nil (fun e he => by simp at he) | exact dm_nil (fun e he => by simp at he)), ?_⟩
    refine Goes.step rfl (fun _ h₁ => ?_)
    replace hF := lv_rely hF h₁
    clear h₁
    rw [stepG_ret']
    simp only [goes_go]
    refine ⟨(by first | exact dc0_none (fun e he => by simp at he) | exact ds_none (fun e he => by simp at he) | exact d0_nil (fun e he => by simp at he) | exact dm_nil (fun e he => by simp at he)), ?_⟩
    refine Goes.step rfl (fun _ h₁ => ?_)
    replace hF := lv_rely hF h₁
    clear h₁
    refine goes_leave1 rfl rfl H.f_uAdd rfl ⟨(by first | exact dc0_none (fun e he => by simp at he) | exact ds_none (fun e he => by simp at he) | exact d0_nil (fun e he => by simp at he) | exact dm_nil (fun e he => by simp at he)), ?_⟩
    walk_nrm
    refine Goes.step rfl (fun _ h₁ => ?_)
    replace hF := lv_rely hF h₁
    clear h₁
    refine goes_oper_k rfl rfl (by k_ne) (fun K hK => ?_)
    go_simp
    refine hK _ _ ⟨?_, ?_⟩
    · first | refine dc0_none ?_ | refine ds_none ?_ | refine d0_nil ?_ | refine dm_nil ?_
      intro e he
      have hm := mem_listed he
      simp [go_sem, *] at hm
    clear hK K
    try w_num
    refine Goes.step rfl (fun _ h₁ => ?_)
    replace hF := lv_rely hF h₁
    clear h₁
    rw [stepG_region_end]
    simp only [goes_go]
    refine ⟨(by first | exact dc0_none (fun e he => by simp at he) | exact ds_none (fun e he => by simp at he) | exact d0_nil (fun e he => by simp at he) | exact dm_nil (fun e he => by simp at he)), ?_⟩
    refine Goes.step rfl (fun _ h₁ => ?_)
    replace hF := lv_rely hF h₁
    clear h₁
    rw [stepG_seq]
    simp only [goes_go]
    refine ⟨(by first | exact dc0_none (fun e he => by simp at he) | exact ds_none (fun e he => by simp at he) | exact d0_nil (fun e he => by simp at he) | exact dm_nil (fun e he => by simp at he)), ?_⟩
    refine Goes.step rfl (fun _ h₁ => ?_)
    replace hF := lv_rely hF h₁
    clear h₁
    rw [stepG_seq]
    simp only [goes_go]
    refine ⟨(by first | exact dc0_none (fun e he => by simp at he) | exact ds_none (fun e he => by simp at he) | exact d0_nil (fun e he => by simp at he) | exact dm_nil (fun e he => by simp at he)), ?_⟩
    refine Goes.step rfl (fun _ h₁ => ?_)
    replace hF := lv_rely hF h₁
    clear h₁
    rw [stepG_region]
    simp only [goes_go, List.size_toArray, List.length_cons, List.length_nil, Nat.reduceAdd, Nat.zero_add, List.range, List.range.loop]
    refine ⟨(by first | exact dc0_none (fun e he => by simp at he) | exact ds_none (fun e he => by simp at he) | exact d0_nil (fun e he => by simp at he) | exact dm_nil (fun e he => by simp at he)), ?_⟩
    refine Goes.step rfl (fun _ h₁ => ?_)
    replace hF := lv_rely hF h₁
    clear h₁
    refine goes_oper_k rfl rfl (by k_ne) (fun K hK => ?_)
    go_simp
    refine hK _ _ ⟨?_, ?_⟩
    · first | refine dc0_none ?_ | refine ds_none ?_ | refine d0_nil ?_ | refine dm_nil ?_
      intro e he
      have hm := mem_listed he
      simp [go_sem, *] at hm
    clear hK K
    try w_num
    refine Goes.step rfl (fun _ h₁ => ?_)
    replace hF := lv_rely hF h₁
    clear h₁
    refine goes_oper_k rfl rfl (by k_ne) (fun K hK => ?_)
    go_simp
    refine hK _ _ ⟨?_, ?_⟩
    · first | refine dc0_none ?_ | refine ds_none ?_ | refine d0_nil ?_ | refine dm_nil ?_
      intro e he
      have hm := mem_listed he
      simp [go_sem, *] at hm
    clear hK K
    try w_num
    refine Goes.step rfl (fun _ h₁ => ?_)
    replace hF := lv_rely hF h₁
    clear h₁
    refine goes_oper_k rfl rfl (by k_ne) (fun K hK => ?_)
    go_simp
    refine hK _ _ ⟨?_, ?_⟩
    · first | refine dc0_none ?_ | refine ds_none ?_ | refine d0_nil ?_ | refine dm_nil ?_
      intro e he
      have hm := mem_listed he
      simp [go_sem, *] at hm
    clear hK K
    try w_num
    refine Goes.step rfl (fun _ h₁ => ?_)
    replace hF := lv_rely hF h₁
    clear h₁
    refine goes_oper_k rfl rfl (by k_ne) (fun K hK => ?_)
    go_simp
    refine hK _ _ ⟨?_, ?_⟩
    · first | refine dc0_none ?_ | refine ds_none ?_ | refine d0_nil ?_ | refine dm_nil ?_
      intro e he
      have hm := mem_listed he
      simp [go_sem, *] at hm
    clear hK K
    try w_num
    refine Goes.step rfl (fun _ h₁ => ?_)
    replace hF := lv_rely hF h₁
    clear h₁
    rw [stepG_unwanted rfl rfl]
    simp only [goes_go]
    refine ⟨(by first | exact dc0_none (fun e he => by simp at he) | exact ds_none (fun e he => by simp at he) | exact d0_nil (fun e he => by simp at he) | exact dm_nil (fun e he => by simp at he)), ?_⟩
    walk_nrm
    refine Goes.step rfl (fun _ h₁ => ?_)
    replace hF := lv_rely hF h₁
    clear h₁
    rw [stepG_unwanted rfl rfl]
    simp only [goes_go]
    refine ⟨(by first | exact dc0_none (fun e he => by simp at he) | exact ds_none (fun e he => by simp at he) | exact d0_nil (fun e he => by simp at he) | exact dm_nil (fun e he => by simp at he)), ?_⟩
    walk_nrm
    refine Goes.step rfl (fun _ h₁ => ?_)
    replace hF := lv_rely hF h₁
    clear h₁
    refine goes_oper_k rfl rfl (by k_ne) (fun K hK => ?_)
    go_simp
    refine hK _ _ ⟨?_, ?_⟩
    · first | refine dc0_none ?_ | refine ds_none ?_ | refine d0_nil ?_ | refine dm_nil ?_
      intro e he
      have hm := mem_listed he
      simp [go_sem, *] at hm
    clear hK K
    try w_num
    refine Goes.step rfl (fun _ h₁ => ?_)
    replace hF := lv_rely hF h₁
    clear h₁
    rw [stepG_region_end]
    simp only [goes_go]
    refine ⟨(by first | exact dc0_none (fun e he => by simp at he) | exact ds_none (fun e he => by simp at he) | exact d0_nil (fun e he => by simp at he) | exact dm_nil (fun e he => by simp at he)), ?_⟩
    refine Goes.step rfl (fun _ h₁ => ?_)
    replace hF := lv_rely hF h₁
    clear h₁
    rw [stepG_cond (t := false) rfl]
    simp only [goes_go, if_true, if_false, Bool.false_eq_true, ↓reduceIte]
    refine ⟨(by first | exact dc0_none (fun e he => by simp at he) | exact ds_none (fun e he => by simp at he) | exact d0_nil (fun e he => by simp at he) | exact dm_nil (fun e he => by simp at he)), ?_⟩
    refine Goes.step rfl (fun _ h₁ => ?_)
    replace hF := lv_rely hF h₁
    clear h₁
    rw [stepG_skip]
    simp only [goes_go]
    refine ⟨(by first | exact dc0_none (fun e he => by simp at he) | exact ds_none (fun e he => by simp at he) | exact d0_nil (fun e he => by simp at he) | exact dm_nil (fun e he => by simp at he)), ?_⟩
    refine Goes.step rfl (fun _ h₁ => ?_)
    replace hF := lv_rely hF h₁
    clear h₁
    rw [stepG_seq]
    simp only [goes_go]
    refine ⟨(by first | exact dc0_none (fun e he => by simp at he) | exact ds_none (fun e he => by simp at he) | exact d0_nil (fun e he => by simp at he) | exact dm_nil (fun e he => by simp at he)), ?_⟩
    refine Goes.step rfl (fun _ h₁ => ?_)
    replace hF := lv_rely hF h₁
    clear h₁
    rw [stepG_region]
    simp only [goes_go, List.size_toArray, List.length_cons, List.length_nil, Nat.reduceAdd, Nat.zero_add, List.range, List.range.loop]
    refine ⟨(by first | exact dc0_none (fun e he => by simp at he) | exact ds_none (fun e he => by simp at he) | exact d0_nil (fun e he => by simp at he) | exact dm_nil (fun e he => by simp at he)), ?_⟩
    refine Goes.step rfl (fun _ h₁ => ?_)
    replace hF := lv_rely hF h₁
    clear h₁
    refine goes_oper_k rfl rfl (by k_ne) (fun K hK => ?_)
    go_simp
    refine hK _ _ ⟨?_, ?_⟩
    · first | refine dc0_none ?_ | refine ds_none ?_ | refine d0_nil ?_ | refine dm_nil ?_
      intro e he
      have hm := mem_listed he
      simp [go_sem, *] at hm
    clear hK K
    try w_num
    refine Goes.step rfl (fun _ h₁ => ?_)
    replace hF := lv_rely hF h₁
    clear h₁
    refine goes_oper_k rfl rfl (by k_ne) (fun K hK => ?_)
    go_simp
    refine hK _ _ ⟨?_, ?_⟩
    · first | refine dc0_none ?_ | refine ds_none ?_ | refine d0_nil ?_ | refine dm_nil ?_
      intro e he
      have hm := mem_listed he
      simp [go_sem, *] at hm
    clear hK K
    try w_num
    refine Goes.step rfl (fun _ h₁ => ?_)
    replace hF := lv_rely hF h₁
    clear h₁
    refine goes_oper_k rfl rfl (by k_ne) (fun K hK => ?_)
    go_simp
    refine hK _ _ ⟨?_, ?_⟩
    · first | refine dc0_none ?_ | refine ds_none ?_ | refine d0_nil ?_ | refine dm_nil ?_
      intro e he
      have hm := mem_listed he
      simp [go_sem, *] at hm
    clear hK K
    try w_num
    refine Goes.step rfl (fun _ h₁ => ?_)
    replace hF := lv_rely hF h₁
    clear h₁
    refine goes_oper_k rfl rfl (by k_ne) (fun K hK => ?_)
    go_simp
    refine hK _ _ ⟨?_, ?_⟩
    · first | refine dc0_none ?_ | refine ds_none ?_ | refine d0_nil ?_ | refine dm_nil ?_
      intro e he
      have hm := mem_listed he
      simp [go_sem, *] at hm
    clear hK K
    try w_num
    refine Goes.step rfl (fun _ h₁ => ?_)
    replace hF := lv_rely hF h₁
    clear h₁
    rw [stepG_region_end]
    simp only [goes_go]
    refine ⟨(by first | exact dc0_none (fun e he => by simp at he) | exact ds_none (fun e he => by simp at he) | exact d0_nil (fun e he => by simp at he) | exact dm_nil (fun e he => by simp at he)), ?_⟩
    refine Goes.step rfl (fun _ h₁ => ?_)
    replace hF := lv_rely hF h₁
    clear h₁
    rw [stepG_seq]
    simp only [goes_go]
    refine ⟨(by first | exact dc0_none (fun e he => by simp at he) | exact ds_none (fun e he => by simp at he) | exact d0_nil (fun e he => by simp at he) | exact dm_nil (fun e he => by simp at he)), ?_⟩
    refine Goes.step rfl (fun _ h₁ => ?_)
    replace hF := lv_rely hF h₁
    clear h₁
    rw [stepG_region]
    simp only [goes_go, List.size_toArray, List.length_cons, List.length_nil, Nat.reduceAdd, Nat.zero_add, List.range, List.range.loop]
    refine ⟨(by first | exact dc0_none (fun e he => by simp at he) | exact ds_none (fun e he => by simp at he) | exact d0_nil (fun e he => by simp at he) | exact dm_nil (fun e he => by simp at he)), ?_⟩
    refine Goes.step rfl (fun _ h₁ => ?_)
    replace hF := lv_rely hF h₁
    clear h₁
    refine goes_oper_k rfl rfl (by k_ne) (fun K hK => ?_)
    go_simp
    refine hK _ _ ⟨?_, ?_⟩
    · first | refine dc0_none ?_ | refine ds_none ?_ | refine d0_nil ?_ | refine dm_nil ?_
      intro e he
      have hm := mem_listed he
      simp [go_sem, *] at hm
    clear hK K
    try w_num
    refine Goes.step rfl (fun _ h₁ => ?_)
    replace hF := lv_rely hF h₁
    clear h₁
    refine goes_oper_k rfl rfl (by k_ne) (fun K hK => ?_)
    go_simp
    refine hK _ _ ⟨?_, ?_⟩
    · first | refine dc0_none ?_ | refine ds_none ?_ | refine d0_nil ?_ | refine dm_nil ?_
      intro e he
      have hm := mem_listed he
      simp [go_sem, *] at hm
    clear hK K
    try w_num
    refine Goes.step rfl (fun _ h₁ => ?_)
    replace hF := lv_rely hF h₁
    clear h₁
    refine goes_oper_k rfl rfl (by k_ne) (fun K hK => ?_)
    go_simp
    refine hK _ _ ⟨?_, ?_⟩
    · first | refine dc0_none ?_ | refine ds_none ?_ | refine d0_nil ?_ | refine dm_nil ?_
      intro e he
      have hm := mem_listed he
      simp [go_sem, *] at hm
    clear hK K
    try w_num
    refine Goes.step rfl (fun _ h₁ => ?_)
    replace hF := lv_rely hF h₁
    clear h₁
    refine goes_oper_k rfl rfl (by k_ne) (fun K hK => ?_)
    go_simp
    refine hK _ _ ⟨?_, ?_⟩
    · first | refine dc0_none ?_ | refine ds_none ?_ | refine d0_nil ?_ | refine dm_nil ?_
      intro e he
      have hm := mem_listed he
      simp [go_sem, *] at hm
    clear hK K
    try w_num
    refine Goes.step rfl (fun _ h₁ => ?_)
    replace hF := lv_rely hF h₁
    clear h₁
    rw [stepG_region_end]
    simp only [goes_go]
    refine ⟨(by first | exact dc0_none (fun e he => by simp at he) | exact ds_none (fun e he => by simp at he) | exact d0_nil (fun e he => by simp at he) | exact dm_nil (fun e he => by simp at he)), ?_⟩
    refine Goes.step rfl (fun _ h₁ => ?_)
    replace hF := lv_rely hF h₁
    clear h₁
    rw [stepG_seq]
    simp only [goes_go]
    refine ⟨(by first | exact dc0_none (fun e he => by simp at he) | exact ds_none (fun e he => by simp at he) | exact d0_nil (fun e he => by simp at he) | exact dm_nil (fun e he => by simp at he)), ?_⟩
    refine Goes.step rfl (fun _ h₁ => ?_)
    replace hF := lv_rely hF h₁
    clear h₁
    rw [stepG_seq]
    simp only [goes_go]
    refine ⟨(by first | exact dc0_none (fun e he => by simp at he) | exact ds_none (fun e he => by simp at he) | exact d0_nil (fun e he => by simp at he) | exact dm_nil (fun e he => by simp at he)), ?_⟩
    refine Goes.step rfl (fun _ h₁ => ?_)
    replace hF := lv_rely hF h₁
    clear h₁
    rw [stepG_region]
    simp only [goes_go, List.size_toArray, List.length_cons, List.length_nil, Nat.reduceAdd, Nat.zero_add, List.range, List.range.loop]
    refine ⟨(by first | exact dc0_none (fun e he => by simp at he) | exact ds_none (fun e he => by simp at he) | exact d0_nil (fun e he => by simp at he) | exact dm_nil (fun e he => by simp at he)), ?_⟩
    refine Goes.step rfl (fun _ h₁ => ?_)
    replace hF := lv_rely hF h₁
    clear h₁
    refine goes_oper_k rfl rfl (by k_ne) (fun K hK => ?_)
    go_simp
    refine hK _ _ ⟨?_, ?_⟩
    · first | refine dc0_none ?_ | refine ds_none ?_ | refine d0_nil ?_ | refine dm_nil ?_
      intro e he
      have hm := mem_listed he
      simp [go_sem, *] at hm
    clear hK K
    try w_num
    refine Goes.step rfl (fun _ h₁ => ?_)
    replace hF := lv_rely hF h₁
    clear h₁
    refine goes_oper_k rfl rfl (by k_ne) (fun K hK => ?_)
    go_simp
    refine hK _ _ ⟨?_, ?_⟩
    · first | refine dc0_none ?_ | refine ds_none ?_ | refine d0_nil ?_ | refine dm_nil ?_
      intro e he
      have hm := mem_listed he
      simp [go_sem, *] at hm
    clear hK K
    try w_num
    refine Goes.step rfl (fun _ h₁ => ?_)
    replace hF := lv_rely hF h₁
    clear h₁
    refine goes_oper_k rfl rfl (by k_ne) (fun K hK => ?_)
    go_simp
    refine hK _ _ ⟨?_, ?_⟩
    · first | refine dc0_none ?_ | refine ds_none ?_ | refine d0_nil ?_ | refine dm_nil ?_
      intro e he
      have hm := mem_listed he
      simp [go_sem, *] at hm
    clear hK K
    try w_num
    refine Goes.step rfl (fun _ h₁ => ?_)
    replace hF := lv_rely hF h₁
    clear h₁
    refine goes_oper_k rfl rfl (by k_ne) (fun K hK => ?_)
    go_simp
    refine hK _ _ ⟨?_, ?_⟩
    · first | refine dc0_none ?_ | refine ds_none ?_ | refine d0_nil ?_ | refine dm_nil ?_
      intro e he
      have hm := mem_listed he
      simp [go_sem, *] at hm
    clear hK K
    try w_num
    refine Goes.step rfl (fun _ h₁ => ?_)
    replace hF := lv_rely hF h₁
    clear h₁
    refine goes_oper_k rfl rfl (by k_ne) (fun K hK => ?_)
    go_simp
    refine hK _ _ ⟨?_, ?_⟩
    · first | refine dc0_none ?_ | refine ds_none ?_ | refine d0_nil ?_ | refine dm_nil ?_
      intro e he
      have hm := mem_listed he
      simp [go_sem, *] at hm
    clear hK K
    try w_num
    refine Goes.step rfl (fun _ h₁ => ?_)
    replace hF := lv_rely hF h₁
    clear h₁
    rw [stepG_unwanted rfl rfl]
    simp only [goes_go]
    refine ⟨(by first | exact dc0_none (fun e he => by simp at he) | exact ds_none (fun e he => by simp at he) | exact d0_nil (fun e he => by simp at he) | exact dm_nil (fun e he => by simp at he)), ?_⟩
    walk_nrm
    refine Goes.step rfl (fun _ h₁ => ?_)
    replace hF := lv_rely hF h₁
    clear h₁
    rw [stepG_unwanted rfl rfl]
    simp only [goes_go]
    refine ⟨(by first | exact dc0_none (fun e he => by simp at he) | exact ds_none (fun e he => by simp at he) | exact d0_nil (fun e he => by simp at he) | exact dm_nil (fun e he => by simp at he)), ?_⟩
    walk_nrm
    refine Goes.step rfl (fun _ h₁ => ?_)
    replace hF := lv_rely hF h₁
    clear h₁
    rw [stepG_unwanted rfl rfl]
    simp only [goes_go]
    refine ⟨(by first | exact dc0_none (fun e he => by simp at he) | exact ds_none (fun e he => by simp at he) | exact d0_nil (fun e he => by simp at he) | exact dm_nil (fun e he => by simp at he)), ?_⟩
    walk_nrm
    refine Goes.step rfl (fun _ h₁ => ?_)
    replace hF := lv_rely hF h₁
    clear h₁
    rw [stepG_unwanted rfl rfl]
    simp only [goes_go]
    refine ⟨(by first | exact dc0_none (fun e he => by simp at he) | exact ds_none (fun e he => by simp at he) | exact d0_nil (fun e he => by simp at he) | exact dm_nil (fun e he => by simp at he)), ?_⟩
    walk_nrm
    refine Goes.step rfl (fun _ h₁ => ?_)
    replace hF := lv_rely hF h₁
    clear h₁
    refine goes_oper_k rfl rfl (by k_ne) (fun K hK => ?_)
    go_simp
    refine hK _ _ ⟨?_, ?_⟩
    · first | refine dc0_none ?_ | refine ds_none ?_ | refine d0_nil ?_ | refine dm_nil ?_
      intro e he
      have hm := mem_listed he
      simp [go_sem, *] at hm
    clear hK K
    try w_num
    refine Goes.step rfl (fun _ h₁ => ?_)
    replace hF := lv_rely hF h₁
    clear h₁
    rw [stepG_region_end]
    simp only [goes_go]
    refine ⟨(by first | exact dc0_none (fun e he => by simp at he) | exact ds_none (fun e he => by simp at he) | exact d0_nil (fun e he => by simp at he) | exact dm_nil (fun e he => by simp at he)), ?_⟩
    refine Goes.step rfl (fun _ h₁ => ?_)
    replace hF := lv_rely hF h₁
    clear h₁
    rw [stepG_cond (t := false) rfl]
    simp only [goes_go, if_true, if_false, Bool.false_eq_true, ↓reduceIte]
    refine ⟨(by first | exact dc0_none (fun e he => by simp at he) | exact ds_none (fun e he => by simp at he) | exact d0_nil (fun e he => by simp at he) | exact dm_nil (fun e he => by simp at he)), ?_⟩
    refine Goes.step rfl (fun _ h₁ => ?_)
    replace hF := lv_rely hF h₁
    clear h₁
    rw [stepG_skip]
    simp only [goes_go]
    refine ⟨(by first | exact dc0_none (fun e he => by simp at he) | exact ds_none (fun e he => by simp at he) | exact d0_nil (fun e he => by simp at he) | exact dm_nil (fun e he => by simp at he)), ?_⟩
    refine Goes.step rfl (fun _ h₁ => ?_)
    replace hF := lv_rely hF h₁
    clear h₁
    rw [stepG_seq]
    simp only [goes_go]
    refine ⟨(by first | exact dc0_none (fun e he => by simp at he) | exact ds_none (fun e he => by simp at he) | exact d0_nil (fun e he => by simp at he) | exact dm_nil (fun e he => by simp at he)), ?_⟩
    refine Goes.step rfl (fun _ h₁ => ?_)
    replace hF := lv_rely hF h₁
    clear h₁
    rw [stepG_seq]
    simp only [goes_go]
    refine ⟨(by first | exact dc0_none (fun e he => by simp at he) | exact ds_none (fun e he => by simp at he) | exact d0_nil (fun e he => by simp at he) | exact dm_nil (fun e he => by simp at he)), ?_⟩
    refine Goes.step rfl (fun _ h₁ => ?_)
    replace hF := lv_rely hF h₁
    clear h₁
    rw [stepG_region]
    simp only [goes_go, List.size_toArray, List.length_cons, List.length_nil, Nat.reduceAdd, Nat.zero_add, List.range, List.range.loop]
    refine ⟨(by first | exact dc0_none (fun e he => by simp at he) | exact ds_none (fun e he => by simp at he) | exact d0_nil (fun e he => by simp at he) | exact dm_nil (fun e he => by simp at he)), ?_⟩
    refine Goes.step rfl (fun _ h₁ => ?_)
    replace hF := lv_rely hF h₁
    clear h₁
    refine goes_oper_k rfl rfl (by k_ne) (fun K hK => ?_)
    go_simp
    refine hK _ _ ⟨?_, ?_⟩
    · first | refine dc0_none ?_ | refine ds_none ?_ | refine d0_nil ?_ | refine dm_nil ?_
      intro e he
      have hm := mem_listed he
      simp [go_sem, *] at hm
    clear hK K
    try w_num
    refine Goes.step rfl (fun _ h₁ => ?_)
    replace hF := lv_rely hF h₁
    clear h₁
    refine goes_oper_k rfl rfl (by k_ne) (fun K hK => ?_)
    go_simp
    refine hK _ _ ⟨?_, ?_⟩
    · first | refine dc0_none ?_ | refine ds_none ?_ | refine d0_nil ?_ | refine dm_nil ?_
      intro e he
      have hm := mem_listed he
      simp [go_sem, *] at hm
    clear hK K
    try w_num
    refine Goes.step rfl (fun _ h₁ => ?_)
    replace hF := lv_rely hF h₁
    clear h₁
    rw [stepG_region_end]
    simp only [goes_go]
    refine ⟨(by first | exact dc0_none (fun e he => by simp at he) | exact ds_none (fun e he => by simp at he) | exact d0_nil (fun e he => by simp at he) | exact dm_nil (fun e he => by simp at he)), ?_⟩
    refine Goes.step rfl (fun _ h₁ => ?_)
    replace hF := lv_rely hF h₁
    clear h₁
    rw [stepG_cond (t := false) rfl]
    simp only [goes_go, if_true, if_false, Bool.false_eq_true, ↓reduceIte]
    refine ⟨(by first | exact dc0_none (fun e he => by simp at he) | exact ds_none (fun e he => by simp at he) | exact d0_nil (fun e he => by simp at he) | exact dm_nil (fun e he => by simp at he)), ?_⟩
    refine Goes.step rfl (fun _ h₁ => ?_)
    replace hF := lv_rely hF h₁
    clear h₁
    rw [stepG_skip]
    simp only [goes_go]
    refine ⟨(by first | exact dc0_none (fun e he => by simp at he) | exact ds_none (fun e he => by simp at he) | exact d0_nil (fun e he => by simp at he) | exact dm_nil (fun e he => by simp at he)), ?_⟩
    refine Goes.step rfl (fun _ h₁ => ?_)
    replace hF := lv_rely hF h₁
    clear h₁
    rw [stepG_seq]
    simp only [goes_go]
    refine ⟨(by first | exact dc0_none (fun e he => by simp at he) | exact ds_none (fun e he => by simp at he) | exact d0_nil (fun e he => by simp at he) | exact dm_nil (fun e he => by simp at he)), ?_⟩
    refine Goes.step rfl (fun _ h₁ => ?_)
    replace hF := lv_rely hF h₁
    clear h₁
    rw [stepG_seq]
    simp only [goes_go]
    refine ⟨(by first | exact dc0_none (fun e he => by simp at he) | exact ds_none (fun e he => by simp at he) | exact d0_nil (fun e he => by simp at he) | exact dm_nil (fun e he => by simp at he)), ?_⟩
    refine Goes.step rfl (fun _ h₁ => ?_)
    replace hF := lv_rely hF h₁
    clear h₁
    rw [stepG_region]
    simp only [goes_go, List.size_toArray, List.length_cons, List.length_nil, Nat.reduceAdd, Nat.zero_add, List.range, List.range.loop]
    refine ⟨(by first | exact dc0_none (fun e he => by simp at he) | exact ds_none (fun e he => by simp at he) | exact d0_nil (fun e he => by simp at he) | exact dm_nil (fun e he => by simp at he)), ?_⟩
    refine Goes.step rfl (fun _ h₁ => ?_)
    replace hF := lv_rely hF h₁
    clear h₁
    refine goes_oper_k rfl rfl (by k_ne) (fun K hK => ?_)
    go_simp
    refine hK _ _ ⟨?_, ?_⟩
    · first | refine dc0_none ?_ | refine ds_none ?_ | refine d0_nil ?_ | refine dm_nil ?_
      intro e he
      have hm := mem_listed he
      simp [go_sem, *] at hm
    clear hK K
    try w_num
    refine Goes.step rfl (fun _ h₁ => ?_)
    replace hF := lv_rely hF h₁
    clear h₁
    refine goes_oper_k rfl rfl (by k_ne) (fun K hK => ?_)
    go_simp
    refine hK _ _ ⟨?_, ?_⟩
    · first | refine dc0_none ?_ | refine ds_none ?_ | refine d0_nil ?_ | refine dm_nil ?_
      intro e he
      have hm := mem_listed he
      simp [go_sem, *] at hm
    clear hK K
    try w_num
    refine Goes.step rfl (fun _ h₁ => ?_)
    replace hF := lv_rely hF h₁
    clear h₁
    refine goes_oper_k rfl rfl (by k_ne) (fun K hK => ?_)
    go_simp
    refine hK _ _ ⟨?_, ?_⟩
    · first | refine dc0_none ?_ | refine ds_none ?_ | refine d0_nil ?_ | refine dm_nil ?_
      intro e he
      have hm := mem_listed he
      simp [go_sem, *] at hm
    clear hK K
    try w_num
    refine Goes.step rfl (fun _ h₁ => ?_)
    replace hF := lv_rely hF h₁
    clear h₁
    refine goes_oper_k rfl rfl (by k_ne) (fun K hK => ?_)
    go_simp
    refine hK _ _ ⟨?_, ?_⟩
    · first | refine dc0_none ?_ | refine ds_none ?_ | refine d0_nil ?_ | refine dm_nil ?_
      intro e he
      have hm := mem_listed he
      simp [go_sem, *] at hm
    clear hK K
    try w_num
    refine Goes.step rfl (fun _ h₁ => ?_)
    replace hF := lv_rely hF h₁
    clear h₁
    refine goes_oper_k rfl rfl (by k_ne) (fun K hK => ?_)
    go_simp
    refine hK _ _ ⟨?_, ?_⟩
    · first | refine dc0_none ?_ | refine ds_none ?_ | refine d0_nil ?_ | refine dm_nil ?_
      intro e he
      have hm := mem_listed he
      simp [go_sem, *] at hm
    clear hK K
    try w_num
    refine Goes.step rfl (fun _ h₁ => ?_)
    replace hF := lv_rely hF h₁
    clear h₁
    refine goes_oper_k rfl rfl (by k_ne) (fun K hK => ?_)
    go_simp
    refine hK _ _ ⟨?_, ?_⟩
    · first | refine dc0_none ?_ | refine ds_none ?_ | refine d0_nil ?_ | refine dm_nil ?_
      intro e he
      have hm := mem_listed he
      simp [go_sem, *] at hm
    clear hK K
    try w_num
    refine Goes.step rfl (fun _ h₁ => ?_)
    replace hF := lv_rely hF h₁
    clear h₁
    refine goes_oper_k rfl rfl (by k_ne) (fun K hK => ?_)
    go_simp
    refine hK _ _ ⟨?_, ?_⟩
    · first | refine dc0_none ?_ | refine ds_none ?_ | refine d0_nil ?_ | refine dm_nil ?_
      intro e he
      have hm := mem_listed he
      simp [go_sem, *] at hm
    clear hK K
    try w_num
    refine Goes.step rfl (fun _ h₁ => ?_)
    replace hF := lv_rely hF h₁
    clear h₁
    rw [stepG_unwanted rfl rfl]
    simp only [goes_go]
    refine ⟨(by first | exact dc0_none (fun e he => by simp at he) | exact ds_none (fun e he => by simp at he) | exact d0_nil (fun e he => by simp at he) | exact dm_nil (fun e he => by simp at he)), ?_⟩
    walk_nrm
    refine Goes.step rfl (fun _ h₁ => ?_)
    replace hF := lv_rely hF h₁
    clear h₁
    rw [stepG_unwanted rfl rfl]
    simp only [goes_go]
    refine ⟨(by first | exact dc0_none (fun e he => by simp at he) | exact ds_none (fun e he => by simp at he) | exact d0_nil (fun e he => by simp at he) | exact dm_nil (fun e he => by simp at he)), ?_⟩
    walk_nrm
    refine Goes.step rfl (fun _ h₁ => ?_)
    replace hF := lv_rely hF h₁
    clear h₁
    rw [stepG_unwanted rfl rfl]
    simp only [goes_go]
    refine ⟨(by first | exact dc0_none (fun e he => by simp at he) | exact ds_none (fun e he => by simp at he) | exact d0_nil (fun e he => by simp at he) | exact dm_nil (fun e he => by simp at he)), ?_⟩
    walk_nrm
    refine Goes.step rfl (fun _ h₁ => ?_)
    replace hF := lv_rely hF h₁
    clear h₁
    rw [stepG_unwanted rfl rfl]
    simp only [goes_go]
    refine ⟨(by first | exact dc0_none (fun e he => by simp at he) | exact ds_none (fun e he => by simp at he) | exact d0_nil (fun e he => by simp at he) | exact dm_nil (fun e he => by simp at he)), ?_⟩
    walk_nrm
    refine Goes.step rfl (fun _ h₁ => ?_)
    replace hF := lv_rely hF h₁
    clear h₁
    refine goes_oper_k rfl rfl (by k_ne) (fun K hK => ?_)
    go_simp
    refine hK _ _ ⟨?_, ?_⟩
    · first | refine dc0_none ?_ | refine ds_none ?_ | refine d0_nil ?_ | refine dm_nil ?_
      intro e he
      have hm := mem_listed he
      simp [go_sem, *] at hm
    clear hK K
    try w_num
    refine Goes.step rfl (fun _ h₁ => ?_)
    replace hF := lv_rely hF h₁
    clear h₁
    rw [stepG_region_end]
    simp only [goes_go]
    refine ⟨(by first | exact dc0_none (fun e he => by simp at he) | exact ds_none (fun e he => by simp at he) | exact d0_nil (fun e he => by simp at he) | exact dm_nil (fun e he => by simp at he)), ?_⟩
    refine Goes.step rfl (fun _ h₁ => ?_)
    replace hF := lv_rely hF h₁
    clear h₁
    rw [stepG_cond (t := false) rfl]
    simp only [goes_go, if_true, if_false, Bool.false_eq_true, ↓reduceIte]
    refine ⟨(by first | exact dc0_none (fun e he => by simp at he) | exact ds_none (fun e he => by simp at he) | exact d0_nil (fun e he => by simp at he) | exact dm_nil (fun e he => by simp at he)), ?_⟩
    refine Goes.step rfl (fun _ h₁ => ?_)
    replace hF := lv_rely hF h₁
    clear h₁
    rw [stepG_skip]
    simp only [goes_go]
    refine ⟨(by first | exact dc0_none (fun e he => by simp at he) | exact ds_none (fun e he => by simp at he) | exact d0_nil (fun e he => by simp at he) | exact dm_nil (fun e he => by simp at he)), ?_⟩
    refine Goes.step rfl (fun _ h₁ => ?_)
    replace hF := lv_rely hF h₁
    clear h₁
    rw [stepG_seq]
    simp only [goes_go]
    refine ⟨(by first | exact dc0_none (fun e he => by simp at he) | exact ds_none (fun e he => by simp at he) | exact d0_nil (fun e he => by simp at he) | exact dm_nil (fun e he => by simp at he)), ?_⟩
    refine Goes.step rfl (fun _ h₁ => ?_)
    replace hF := lv_rely hF h₁
    clear h₁
    rw [stepG_seq]
    simp only [goes_go]
    refine ⟨(by first | exact dc0_none (fun e he => by simp at he) | exact ds_none (fun e he => by simp at he) | exact d0_nil (fun e he => by simp at he) | exact dm_nil (fun e he => by simp at he)), ?_⟩
    refine Goes.step rfl (fun _ h₁ => ?_)
    replace hF := lv_rely hF h₁
    clear h₁
    rw [stepG_region]
    simp only [goes_go, List.size_toArray, List.length_cons, List.length_nil, Nat.reduceAdd, Nat.zero_add, List.range, List.range.loop]
    refine ⟨(by first | exact dc0_none (fun e he => by simp at he) | exact ds_none (fun e he => by simp at he) | exact d0_nil (fun e he => by simp at he) | exact dm_nil (fun e he => by simp at he)), ?_⟩
    refine Goes.step rfl (fun _ h₁ => ?_)
    replace hF := lv_rely hF h₁
    clear h₁
    refine goes_oper_k rfl rfl (by k_ne) (fun K hK => ?_)
    go_simp
    refine hK _ _ ⟨?_, ?_⟩
    · first | refine dc0_none ?_ | refine ds_none ?_ | refine d0_nil ?_ | refine dm_nil ?_
      intro e he
      have hm := mem_listed he
      simp [go_sem, *] at hm
    clear hK K
    try w_num
    refine Goes.step rfl (fun _ h₁ => ?_)
    replace hF := lv_rely hF h₁
    clear h₁
    refine goes_oper_k rfl rfl (by k_ne) (fun K hK => ?_)
    go_simp
    refine hK _ _ ⟨?_, ?_⟩
    · first | refine dc0_none ?_ | refine ds_none ?_ | refine d0_nil ?_ | refine dm_nil ?_
      intro e he
      have hm := mem_listed he
      simp [go_sem, *] at hm
    clear hK K
    try w_num
    refine Goes.step rfl (fun _ h₁ => ?_)
    replace hF := lv_rely hF h₁
    clear h₁
    refine goes_oper_k rfl rfl (by k_ne) (fun K hK => ?_)
    go_simp
    refine hK _ _ ⟨?_, ?_⟩
    · first | refine dc0_none ?_ | refine ds_none ?_ | refine d0_nil ?_ | refine dm_nil ?_
      intro e he
      have hm := mem_listed he
      simp [go_sem, *] at hm
    clear hK K
    try w_num
    refine Goes.step rfl (fun _ h₁ => ?_)
    replace hF := lv_rely hF h₁
    clear h₁
    refine goes_oper_k rfl rfl (by k_ne) (fun K hK => ?_)
    go_simp
    refine hK _ _ ⟨?_, ?_⟩
    · first | refine dc0_none ?_ | refine ds_none ?_ | refine d0_nil ?_ | refine dm_nil ?_
      intro e he
      have hm := mem_listed he
      simp [go_sem, *] at hm
    clear hK K
    try w_num
    refine Goes.step rfl (fun _ h₁ => ?_)
    replace hF := lv_rely hF h₁
    clear h₁
    refine goes_oper_k rfl rfl (by k_ne) (fun K hK => ?_)
    go_simp
    refine hK _ _ ⟨?_, ?_⟩
    · first | refine dc0_none ?_ | refine ds_none ?_ | refine d0_nil ?_ | refine dm_nil ?_
      intro e he
      have hm := mem_listed he
      simp [go_sem, *] at hm
    clear hK K
    try w_num
    refine Goes.step rfl (fun _ h₁ => ?_)
    replace hF := lv_rely hF h₁
    clear h₁
    refine goes_oper_k rfl rfl (by k_ne) (fun K hK => ?_)
    go_simp
    refine hK _ _ ⟨?_, ?_⟩
    · first | refine dc0_none ?_ | refine ds_none ?_ | refine d0_nil ?_ | refine dm_nil ?_
      intro e he
      have hm := mem_listed he
      simp [go_sem, *] at hm
    clear hK K
    try w_num
    refine Goes.step rfl (fun _ h₁ => ?_)
    replace hF := lv_rely hF h₁
    clear h₁
    rw [stepG_region_end]
    simp only [goes_go]
    refine ⟨(by first | exact dc0_none (fun e he => by simp at he) | exact ds_none (fun e he => by simp at he) | exact d0_nil (fun e he => by simp at he) | exact dm_nil (fun e he => by simp at he)), ?_⟩
    refine Goes.step rfl (fun _ h₁ => ?_)
    replace hF := lv_rely hF h₁
    clear h₁
    rw [stepG_cond (t := false) rfl]
    simp only [goes_go, if_true, if_false, Bool.false_eq_true, ↓reduceIte]
    refine ⟨(by first | exact dc0_none (fun e he => by simp at he) | exact ds_none (fun e he => by simp at he) | exact d0_nil (fun e he => by simp at he) | exact dm_nil (fun e he => by simp at he)), ?_⟩
    refine Goes.step rfl (fun _ h₁ => ?_)
    replace hF := lv_rely hF h₁
    clear h₁
    rw [stepG_skip]
    simp only [goes_go]
    refine ⟨(by first | exact dc0_none (fun e he => by simp at he) | exact ds_none (fun e he => by simp at he) | exact d0_nil (fun e he => by simp at he) | exact dm_nil (fun e he => by simp at he)), ?_⟩
    refine Goes.step rfl (fun _ h₁ => ?_)
    replace hF := lv_rely hF h₁
    clear h₁
    rw [stepG_seq]
    simp only [goes_go]
    refine ⟨(by first | exact dc0_none (fun e he => by simp at he) | exact ds_none (fun e he => by simp at he) | exact d0_nil (fun e he => by simp at he) | exact dm_nil (fun e he => by simp at he)), ?_⟩
    refine Goes.step rfl (fun _ h₁ => ?_)
    replace hF := lv_rely hF h₁
    clear h₁
    rw [stepG_seq]
    simp only [goes_go]
    refine ⟨(by first | exact dc0_none (fun e he => by simp at he) | exact ds_none (fun e he => by simp at he) | exact d0_nil (fun e he => by simp at he) | exact dm_nil (fun e he => by simp at he)), ?_⟩
    refine Goes.step rfl (fun _ h₁ => ?_)
    replace hF := lv_rely hF h₁
    clear h₁
    rw [stepG_region]
    simp only [goes_go, List.size_toArray, List.length_cons, List.length_nil, Nat.reduceAdd, Nat.zero_add, List.range, List.range.loop]
    refine ⟨(by first | exact dc0_none (fun e he => by simp at he) | exact ds_none (fun e he => by simp at he) | exact d0_nil (fun e he => by simp at he) | exact dm_nil (fun e he => by simp at he)), ?_⟩
    refine Goes.step rfl (fun _ h₁ => ?_)
    replace hF := lv_rely hF h₁
    clear h₁
    refine goes_oper_k rfl rfl (by k_ne) (fun K hK => ?_)
    go_simp
    refine hK _ _ ⟨?_, ?_⟩
    · first | refine dc0_none ?_ | refine ds_none ?_ | refine d0_nil ?_ | refine dm_nil ?_
      intro e he
      have hm := mem_listed he
      simp [go_sem, *] at hm
    clear hK K
    try w_num
    refine Goes.step rfl (fun _ h₁ => ?_)
    replace hF := lv_rely hF h₁
    clear h₁
    refine goes_oper_k rfl rfl (by k_ne) (fun K hK => ?_)
    go_simp
    refine hK _ _ ⟨?_, ?_⟩
    · first | refine dc0_none ?_ | refine ds_none ?_ | refine d0_nil ?_ | refine dm_nil ?_
      intro e he
      have hm := mem_listed he
      simp [go_sem, *] at hm
    clear hK K
    try w_num
    refine Goes.step rfl (fun _ h₁ => ?_)
    replace hF := lv_rely hF h₁
    clear h₁
    refine goes_oper_k rfl rfl (by k_ne) (fun K hK => ?_)
    go_simp
    refine hK _ _ ⟨?_, ?_⟩
    · first | refine dc0_none ?_ | refine ds_none ?_ | refine d0_nil ?_ | refine dm_nil ?_
      intro e he
      have hm := mem_listed he
      simp [go_sem, *] at hm
    clear hK K
    try w_num
    refine Goes.step rfl (fun _ h₁ => ?_)
    replace hF := lv_rely hF h₁
    clear h₁
    refine goes_call rfl rfl (by k_ne) rfl H.f_uLoad (nm_uLoad L) rfl ⟨(by first | exact dc0_none (fun e he => by simp at he) | exact ds_none (fun e he => by simp at he) | exact d0_nil (fun e he => by simp at he) | exact dm_nil (fun e he => by simp at he)), ?_⟩
    walk_nrmf uLoadFn
    refine Goes.step rfl (fun _ h₁ => ?_)
    replace hF := lv_rely hF h₁
    clear h₁
    rw [stepG_seq]
    simp only [goes_go]
    refine ⟨(by first | exact dc0_none (fun e he => by simp at he) | exact ds_none (fun e he => by simp at he) | exact d0_nil (fun e he => by simp at he) | exact dm_nil (fun e he => by simp at he)), ?_⟩
    refine Goes.step rfl (fun _ h₁ => ?_)
    replace hF := lv_rely hF h₁
    clear h₁
    rw [stepG_region]
    simp only [goes_go, List.size_toArray, List.length_cons, List.length_nil, Nat.reduceAdd, Nat.zero_add, List.range, List.range.loop]
    refine ⟨(by first | exact dc0_none (fun e he => by simp at he) | exact ds_none (fun e he => by simp at he) | exact d0_nil (fun e he => by simp at he) | exact dm_nil (fun e he => by simp at he)), ?_⟩
    refine Goes.step rfl (fun _ h₁ => ?_)
    replace hF := lv_rely hF h₁
    clear h₁
    refine goes_oper_k rfl rfl (by k_ne) (fun K hK => ?_)
    go_simp
    refine hK _ _ ⟨?_, ?_⟩
    · first | refine dc0_none ?_ | refine ds_none ?_ | refine d0_nil ?_ | refine dm_nil ?_
      intro e he
      have hm := mem_listed he
      simp [go_sem, *] at hm
    clear hK K
    try w_num
    refine Goes.step rfl (fun _ h₁ => ?_)
    replace hF := lv_rely hF h₁
    clear h₁
    rw [stepG_region_end]
    simp only [goes_go]
    refine ⟨(by first | exact dc0_none (fun e he => by simp at he) | exact ds_none (fun e he => by simp at he) | exact d0_nil (fun e he => by simp at he) | exact dm_nil (fun e he => by simp at he)), ?_⟩
    refine Goes.step rfl (fun _ h₁ => ?_)
    replace hF := lv_rely hF h₁
    clear h₁
    rw [stepG_seq]
    simp only [goes_go]
    refine ⟨(by first | exact dc0_none (fun e he => by simp at he) | exact ds_none (fun e he => by simp at he) | exact d0_nil (fun e he => by simp at he) | exact dm_nil (fun e he => by simp at he)), ?_⟩
    refine Goes.step rfl (fun _ h₁ => ?_)
    replace hF := lv_rely hF h₁
    clear h₁
    rw [stepG_region]
    simp only [goes_go, List.size_toArray, List.length_cons, List.length_nil, Nat.reduceAdd, Nat.zero_add, List.range, List.range.loop]
    refine ⟨(by first | exact dc0_none (fun e he => by simp at he) | exact ds_none (fun e he => by simp at he) | exact d0_nil (fun e he => by simp at he) | exact dm_nil (fun e he => by simp at he)), ?_⟩
    refine Goes.step rfl (fun _ h₁ => ?_)
    replace hF := lv_rely hF h₁
    clear h₁
    refine goes_oper_k rfl rfl (by k_ne) (fun K hK => ?_)
    go_simp
    refine hK _ _ ⟨?_, ?_⟩
    · first | refine dc0_none ?_ | refine ds_none ?_ | refine d0_nil ?_ | refine dm_nil ?_
      intro e he
      have hm := mem_listed he
      simp [go_sem, *] at hm
    clear hK K
    try w_num
    refine Goes.step rfl (fun _ h₁ => ?_)
    replace hF := lv_rely hF h₁
    clear h₁
    refine goes_oper_k rfl rfl (by k_ne) (fun K hK => ?_)
    go_simp
    refine hK _ _ ⟨?_, ?_⟩
    · first | refine dc0_none ?_ | refine ds_none ?_ | refine d0_nil ?_ | refine dm_nil ?_
      intro e he
      have hm := mem_listed he
      simp [go_sem, *] at hm
    clear hK K
    try w_num
    refine Goes.step rfl (fun _ h₁ => ?_)
    replace hF := lv_rely hF h₁
    clear h₁
    refine goes_oper_k rfl rfl (by k_ne) (fun K hK => ?_)
    go_simp
    refine hK _ _ ⟨?_, ?_⟩
    · first | refine dc0_none ?_ | refine ds_none ?_ | refine d0_nil ?_ | refine dm_nil ?_
      intro e he
      have hm := mem_listed he
      simp [go_sem, *] at hm
    clear hK K
    try w_num
    refine Goes.stop (fun w₂ h₂ => ?_)
    clear h₂ hF
    refine ⟨rfl, fun hw => ⟨_, stepG_load_atomic rfl rfl (by k_ne) rfl H.f_loadU64 (x_loadU64_n L) (x_loadU64_b L) (x_loadU64_x L) .u64 (x_loadU64_f L) rfl hw.cellSt, 40, ?_⟩⟩
    have hF : WgLive E.ty E.Wg w₂ := ⟨_, _, hw⟩
    clear hw
    walk_nrm
    refine Goes.step rfl (fun _ h₁ => ?_)
    replace hF := lv_rely hF h₁
    clear h₁
    refine goes_oper_k rfl rfl (by k_ne) (fun K hK => ?_)
    go_simp
    refine hK _ _ ⟨?_, ?_⟩
    · first | refine dc0_none ?_ | refine ds_none ?_ | refine d0_nil ?_ | refine dm_nil ?_
      intro e he
      have hm := mem_listed he
      simp [go_sem, *] at hm
    clear hK K
    try w_num
    refine Goes.step rfl (fun _ h₁ => ?_)
    replace hF := lv_rely hF h₁
    clear h₁
    rw [stepG_region_end]
    simp only [goes_go]
    refine ⟨(by first | exact dc0_none (fun e he => by simp at he) | exact ds_none (fun e he => by simp at he) | exact d0_nil (fun e he => by simp at he) | exact dm_nil (fun e he => by simp at he)), ?_⟩
    refine Goes.step rfl (fun _ h₁ => ?_)
    replace hF := lv_rely hF h₁
    clear h₁
    rw [stepG_ret']
    simp only [goes_go]
    refine ⟨(by first | exact dc0_none (fun e he => by simp at he) | exact ds_none (fun e he => by simp at he) | exact d0_nil (fun e he => by simp at he) | exact dm_nil (fun e he => by simp at he)), ?_⟩
    refine Goes.step rfl (fun _ h₁ => ?_)
    replace hF := lv_rely hF h₁
    clear h₁
    refine goes_leave1 rfl rfl H.f_uLoad rfl ⟨(by first | exact dc0_none (fun e he => by simp at he) | exact ds_none (fun e he => by simp at he) | exact d0_nil (fun e he => by simp at he) | exact dm_nil (fun e he => by simp at he)), ?_⟩
    walk_nrm
    refine Goes.step rfl (fun _ h₁ => ?_)
    replace hF := lv_rely hF h₁
    clear h₁
    refine goes_oper_k rfl rfl (by k_ne) (fun K hK => ?_)
    go_simp
    refine hK _ _ ⟨?_, ?_⟩
    · first | refine dc0_none ?_ | refine ds_none ?_ | refine d0_nil ?_ | refine dm_nil ?_
      intro e he
      have hm := mem_listed he
      simp [go_sem, *] at hm
    clear hK K
    try w_num
    refine Goes.step rfl (fun _ h₁ => ?_)
    replace hF := lv_rely hF h₁
    clear h₁
    refine goes_oper_k rfl rfl (by k_ne) (fun K hK => ?_)
    go_simp
    refine hK _ _ ⟨?_, ?_⟩
    · first | refine dc0_none ?_ | refine ds_none ?_ | refine d0_nil ?_ | refine dm_nil ?_
      intro e he
      have hm := mem_listed he
      simp [go_sem, *] at hm
    clear hK K
    try w_num
    refine Goes.step rfl (fun _ h₁ => ?_)
    replace hF := lv_rely hF h₁
    clear h₁
    rw [stepG_region_end]
    simp only [goes_go]
    refine ⟨(by first | exact dc0_none (fun e he => by simp at he) | exact ds_none (fun e he => by simp at he) | exact d0_nil (fun e he => by simp at he) | exact dm_nil (fun e he => by simp at he)), ?_⟩
    refine Goes.step rfl (fun _ h₁ => ?_)
    replace hF := lv_rely hF h₁
    clear h₁
    rw [stepG_cond (t := false) rfl]
    simp only [goes_go, if_true, if_false, Bool.false_eq_true, ↓reduceIte]
    refine ⟨(by first | exact dc0_none (fun e he => by simp at he) | exact ds_none (fun e he => by simp at he) | exact d0_nil (fun e he => by simp at he) | exact dm_nil (fun e he => by simp at he)), ?_⟩
    refine Goes.step rfl (fun _ h₁ => ?_)
    replace hF := lv_rely hF h₁
    clear h₁
    rw [stepG_skip]
    simp only [goes_go]
    refine ⟨(by first | exact dc0_none (fun e he => by simp at he) | exact ds_none (fun e he => by simp at he) | exact d0_nil (fun e he => by simp at he) | exact dm_nil (fun e he => by simp at he)), ?_⟩
    refine Goes.step rfl (fun _ h₁ => ?_)
    replace hF := lv_rely hF h₁
    clear h₁
    rw [stepG_seq]
    simp only [goes_go]
    refine ⟨(by first | exact dc0_none (fun e he => by simp at he) | exact ds_none (fun e he => by simp at he) | exact d0_nil (fun e he => by simp at he) | exact dm_nil (fun e he => by simp at he)), ?_⟩
    refine Goes.step rfl (fun _ h₁ => ?_)
    replace hF := lv_rely hF h₁
    clear h₁
    rw [stepG_region]
    simp only [goes_go, List.size_toArray, List.length_cons, List.length_nil, Nat.reduceAdd, Nat.zero_add, List.range, List.range.loop]
    refine ⟨(by first | exact dc0_none (fun e he => by simp at he) | exact ds_none (fun e he => by simp at he) | exact d0_nil (fun e he => by simp at he) | exact dm_nil (fun e he => by simp at he)), ?_⟩
    refine Goes.step rfl (fun _ h₁ => ?_)
    replace hF := lv_rely hF h₁
    clear h₁
    refine goes_oper_k rfl rfl (by k_ne) (fun K hK => ?_)
    go_simp
    refine hK _ _ ⟨?_, ?_⟩
    · first | refine dc0_none ?_ | refine ds_none ?_ | refine d0_nil ?_ | refine dm_nil ?_
      intro e he
      have hm := mem_listed he
      simp [go_sem, *] at hm
    clear hK K
    try w_num
    refine Goes.step rfl (fun _ h₁ => ?_)
    replace hF := lv_rely hF h₁
    clear h₁
    refine goes_oper_k rfl rfl (by k_ne) (fun K hK => ?_)
    go_simp
    refine hK _ _ ⟨?_, ?_⟩
    · first | refine dc0_none ?_ | refine ds_none ?_ | refine d0_nil ?_ | refine dm_nil ?_
      intro e he
      have hm := mem_listed he
      simp [go_sem, *] at hm
    clear hK K
    try w_num
    refine Goes.step rfl (fun _ h₁ => ?_)
    replace hF := lv_rely hF h₁
    clear h₁
    refine goes_oper_k rfl rfl (by k_ne) (fun K hK => ?_)
    go_simp
    refine hK _ _ ⟨?_, ?_⟩
    · first | refine dc0_none ?_ | refine ds_none ?_ | refine d0_nil ?_ | refine dm_nil ?_
      intro e he
      have hm := mem_listed he
      simp [go_sem, *] at hm
    clear hK K
    try w_num
    refine Goes.step rfl (fun _ h₁ => ?_)
    replace hF := lv_rely hF h₁
    clear h₁
    refine goes_call rfl rfl (by k_ne) rfl H.f_uStore (nm_uStore L) rfl ⟨(by first | exact dc0_none (fun e he => by simp at he) | exact ds_none (fun e he => by simp at he) | exact d0_nil (fun e he => by simp at he) | exact dm_nil (fun e he => by simp at he)), ?_⟩
    walk_nrmf uStoreFn
    refine Goes.step rfl (fun _ h₁ => ?_)
    replace hF := lv_rely hF h₁
    clear h₁
    rw [stepG_region]
    simp only [goes_go, List.size_toArray, List.length_cons, List.length_nil, Nat.reduceAdd, Nat.zero_add, List.range, List.range.loop]
    refine ⟨(by first | exact dc0_none (fun e he => by simp at he) | exact ds_none (fun e he => by simp at he) | exact d0_nil (fun e he => by simp at he) | exact dm_nil (fun e he => by simp at he)), ?_⟩
    refine Goes.step rfl (fun _ h₁ => ?_)
    replace hF := lv_rely hF h₁
    clear h₁
    refine goes_oper_k rfl rfl (by k_ne) (fun K hK => ?_)
    go_simp
    refine hK _ _ ⟨?_, ?_⟩
    · first | refine dc0_none ?_ | refine ds_none ?_ | refine d0_nil ?_ | refine dm_nil ?_
      intro e he
      have hm := mem_listed he
      simp [go_sem, *] at hm
    clear hK K
    try w_num
    refine Goes.step rfl (fun _ h₁ => ?_)
    replace hF := lv_rely hF h₁
    clear h₁
    refine goes_oper_k rfl rfl (by k_ne) (fun K hK => ?_)
    go_simp
    refine hK _ _ ⟨?_, ?_⟩
    · first | refine dc0_none ?_ | refine ds_none ?_ | refine d0_nil ?_ | refine dm_nil ?_
      intro e he
      have hm := mem_listed he
      simp [go_sem, *] at hm
    clear hK K
    try w_num
    refine Goes.step rfl (fun _ h₁ => ?_)
    replace hF := lv_rely hF h₁
    clear h₁
    refine goes_oper_k rfl rfl (by k_ne) (fun K hK => ?_)
    go_simp
    refine hK _ _ ⟨?_, ?_⟩
    · first | refine dc0_none ?_ | refine ds_none ?_ | refine d0_nil ?_ | refine dm_nil ?_
      intro e he
      have hm := mem_listed he
      simp [go_sem, *] at hm
    clear hK K
    try w_num
    refine Goes.step rfl (fun _ h₁ => ?_)
    replace hF := lv_rely hF h₁
    clear h₁
    refine goes_oper_k rfl rfl (by k_ne) (fun K hK => ?_)
    go_simp
    refine hK _ _ ⟨?_, ?_⟩
    · first | refine dc0_none ?_ | refine ds_none ?_ | refine d0_nil ?_ | refine dm_nil ?_
      intro e he
      have hm := mem_listed he
      simp [go_sem, *] at hm
    clear hK K
    try w_num
    refine Goes.stop (fun w₃ h₃ => ?_)
    clear h₃ hF
    refine ⟨rfl, fun hw => ⟨_, stepG_store_atomic rfl rfl (by k_ne) rfl H.f_storeU64 (x_storeU64_n L) (x_storeU64_b L) (x_storeU64_x L) (x_storeU64_f L) rfl rfl hw.cellSt (hw.thaw 0), 50, ?_⟩⟩
    have hF : WgLive E.ty E.Wg (w₃.setCell (stA E.Wg) (.int .u64 0)) := ⟨_, _, hw.setSt 0⟩
    clear hw
    walk_nrm
    refine Goes.step rfl (fun _ h₁ => ?_)
    replace hF := lv_rely hF h₁
    clear h₁
    rw [stepG_region_end]
    simp only [goes_go]
    refine ⟨(by first | exact dc0_none (fun e he => by simp at he) | exact ds_none (fun e he => by simp at he) | exact d0_nil (fun e he => by simp at he) | exact dm_nil (fun e he => by simp at he)), ?_⟩
    refine Goes.step rfl (fun _ h₁ => ?_)
    replace hF := lv_rely hF h₁
    clear h₁
    rw [stepG_end]
    simp only [goes_go]
    refine ⟨(by first | exact dc0_none (fun e he => by simp at he) | exact ds_none (fun e he => by simp at he) | exact d0_nil (fun e he => by simp at he) | exact dm_nil (fun e he => by simp at he)), ?_⟩
    refine Goes.step rfl (fun _ h₁ => ?_)
    replace hF := lv_rely hF h₁
    clear h₁
    refine goes_leave0 rfl rfl H.f_uStore rfl ⟨(by first | exact dc0_none (fun e he => by simp at he) | exact ds_none (fun e he => by simp at he) | exact d0_nil (fun e he => by simp at he) | exact dm_nil (fun e he => by simp at he)), ?_⟩
    walk_nrm
    refine Goes.step rfl (fun _ h₁ => ?_)
    replace hF := lv_rely hF h₁
    clear h₁
    rw [stepG_region_end]
    simp only [goes_go]
    refine ⟨(by first | exact dc0_none (fun e he => by simp at he) | exact ds_none (fun e he => by simp at he) | exact d0_nil (fun e he => by simp at he) | exact dm_nil (fun e he => by simp at he)), ?_⟩
    refine Goes.step rfl (fun _ h₁ => ?_)
    replace hF := lv_rely hF h₁
    clear h₁
    rw [stepG_seq]
    simp only [goes_go]
    refine ⟨(by first | exact dc0_none (fun e he => by simp at he) | exact ds_none (fun e he => by simp at he) | exact d0_nil (fun e he => by simp at he) | exact dm_nil (fun e he => by simp at he)), ?_⟩
    refine Goes.step rfl (fun _ h₁ => ?_)
    replace hF := lv_rely hF h₁
    clear h₁
    rw [stepG_seq]
    simp only [goes_go]
    refine ⟨(by first | exact dc0_none (fun e he => by simp at he) | exact ds_none (fun e he => by simp at he) | exact d0_nil (fun e he => by simp at he) | exact dm_nil (fun e he => by simp at he)), ?_⟩
    refine Goes.step rfl (fun _ h₁ => ?_)
    replace hF := lv_rely hF h₁
    clear h₁
    rw [stepG_region]
    simp only [goes_go, List.size_toArray, List.length_cons, List.length_nil, Nat.reduceAdd, Nat.zero_add, List.range, List.range.loop]
    refine ⟨(by first | exact dc0_none (fun e he => by simp at he) | exact ds_none (fun e he => by simp at he) | exact d0_nil (fun e he => by simp at he) | exact dm_nil (fun e he => by simp at he)), ?_⟩
    refine Goes.step rfl (fun _ h₁ => ?_)
    replace hF := lv_rely hF h₁
    clear h₁
    refine goes_oper_k rfl rfl (by k_ne) (fun K hK => ?_)
    go_simp
    refine hK _ _ ⟨?_, ?_⟩
    · first | refine dc0_none ?_ | refine ds_none ?_ | refine d0_nil ?_ | refine dm_nil ?_
      intro e he
      have hm := mem_listed he
      simp [go_sem, *] at hm
    clear hK K
    try w_num
    refine Goes.step rfl (fun _ h₁ => ?_)
    replace hF := lv_rely hF h₁
    clear h₁
    rw [stepG_region_end]
    simp only [goes_go]
    refine ⟨(by first | exact dc0_none (fun e he => by simp at he) | exact ds_none (fun e he => by simp at he) | exact d0_nil (fun e he => by simp at he) | exact dm_nil (fun e he => by simp at he)), ?_⟩
    refine Goes.step rfl (fun _ h₁ => ?_)
    replace hF := lv_rely hF h₁
    clear h₁
    rw [stepG_cond (t := false) rfl]
    simp only [goes_go, if_true, if_false, Bool.false_eq_true, ↓reduceIte]
    refine ⟨(by first | exact dc0_none (fun e he => by simp at he) | exact ds_none (fun e he => by simp at he) | exact d0_nil (fun e he => by simp at he) | exact dm_nil (fun e he => by simp at he)), ?_⟩
    refine Goes.step rfl (fun _ h₁ => ?_)
    replace hF := lv_rely hF h₁
    clear h₁
    rw [stepG_skip]
    simp only [goes_go]
    refine ⟨(by first | exact dc0_none (fun e he => by simp at he) | exact ds_none (fun e he => by simp at he) | exact d0_nil (fun e he => by simp at he) | exact dm_nil (fun e he => by simp at he)), ?_⟩
    refine Goes.step rfl (fun _ h₁ => ?_)
    replace hF := lv_rely hF h₁
    clear h₁
    rw [stepG_block]
    simp only [goes_go]
    refine ⟨(by first | exact dc0_none (fun e he => by simp at he) | exact ds_none (fun e he => by simp at he) | exact d0_nil (fun e he => by simp at he) | exact dm_nil (fun e he => by simp at he)), ?_⟩
    refine Goes.step rfl (fun _ h₁ => ?_)
    replace hF := lv_rely hF h₁
    clear h₁
    rw [stepG_loop]
    simp only [goes_go]
    refine ⟨(by first | exact dc0_none (fun e he => by simp at he) | exact ds_none (fun e he => by simp at he) | exact d0_nil (fun e he => by simp at he) | exact dm_nil (fun e he => by simp at he)), ?_⟩
    refine Goes.step rfl (fun _ h₁ => ?_)
    replace hF := lv_rely hF h₁
    clear h₁
    rw [stepG_seq]
    simp only [goes_go]
    refine ⟨(by first | exact dc0_none (fun e he => by simp at he) | exact ds_none (fun e he => by simp at he) | exact d0_nil (fun e he => by simp at he) | exact dm_nil (fun e he => by simp at he)), ?_⟩
    refine Goes.step rfl (fun _ h₁ => ?_)
    replace hF := lv_rely hF h₁
    clear h₁
    rw [stepG_seq]
    simp only [goes_go]
    refine ⟨(by first | exact dc0_none (fun e he => by simp at he) | exact ds_none (fun e he => by simp at he) | exact d0_nil (fun e he => by simp at he) | exact dm_nil (fun e he => by simp at he)), ?_⟩
    refine Goes.step rfl (fun _ h₁ => ?_)
    replace hF := lv_rely hF h₁
    clear h₁
    rw [stepG_region]
    simp only [goes_go, List.size_toArray, List.length_cons, List.length_nil, Nat.reduceAdd, Nat.zero_add, List.range, List.range.loop]
    refine ⟨(by first | exact dc0_none (fun e he => by simp at he) | exact ds_none (fun e he => by simp at he) | exact d0_nil (fun e he => by simp at he) | exact dm_nil (fun e he => by simp at he)), ?_⟩
    refine Goes.step rfl (fun _ h₁ => ?_)
    replace hF := lv_rely hF h₁
    clear h₁
    refine goes_oper_k rfl rfl (by k_ne) (fun K hK => ?_)
    go_simp
    refine hK _ _ ⟨?_, ?_⟩
    · first | refine dc0_none ?_ | refine ds_none ?_ | refine d0_nil ?_ | refine dm_nil ?_
      intro e he
      have hm := mem_listed he
      simp [go_sem, *] at hm
    clear hK K
    try w_num
    refine Goes.step rfl (fun _ h₁ => ?_)
    replace hF := lv_rely hF h₁
    clear h₁
    refine goes_oper_k rfl rfl (by k_ne) (fun K hK => ?_)
    go_simp
    refine hK _ _ ⟨?_, ?_⟩
    · first | refine dc0_none ?_ | refine ds_none ?_ | refine d0_nil ?_ | refine dm_nil ?_
      intro e he
      have hm := mem_listed he
      simp [go_sem, *] at hm
    clear hK K
    try w_num
    refine Goes.step rfl (fun _ h₁ => ?_)
    replace hF := lv_rely hF h₁
    clear h₁
    rw [stepG_region_end]
    simp only [goes_go]
    refine ⟨(by first | exact dc0_none (fun e he => by simp at he) | exact ds_none (fun e he => by simp at he) | exact d0_nil (fun e he => by simp at he) | exact dm_nil (fun e he => by simp at he)), ?_⟩
    refine Goes.step rfl (fun _ h₁ => ?_)
    replace hF := lv_rely hF h₁
    clear h₁
    rw [stepG_cond (t := true) rfl]
    simp only [goes_go, if_true, if_false, Bool.false_eq_true, ↓reduceIte]
    refine ⟨(by first | exact dc0_none (fun e he => by simp at he) | exact ds_none (fun e he => by simp at he) | exact d0_nil (fun e he => by simp at he) | exact dm_nil (fun e he => by simp at he)), ?_⟩
    refine Goes.step rfl (fun _ h₁ => ?_)
    replace hF := lv_rely hF h₁
    clear h₁
    rw [stepG_skip]
    simp only [goes_go]
    refine ⟨(by first | exact dc0_none (fun e he => by simp at he) | exact ds_none (fun e he => by simp at he) | exact d0_nil (fun e he => by simp at he) | exact dm_nil (fun e he => by simp at he)), ?_⟩
    refine Goes.step rfl (fun _ h₁ => ?_)
    replace hF := lv_rely hF h₁
    clear h₁
    rw [stepG_seq]
    simp only [goes_go]
    refine ⟨(by first | exact dc0_none (fun e he => by simp at he) | exact ds_none (fun e he => by simp at he) | exact d0_nil (fun e he => by simp at he) | exact dm_nil (fun e he => by simp at he)), ?_⟩
    refine Goes.step rfl (fun _ h₁ => ?_)
    replace hF := lv_rely hF h₁
    clear h₁
    rw [stepG_block]
    simp only [goes_go]
    refine ⟨(by first | exact dc0_none (fun e he => by simp at he) | exact ds_none (fun e he => by simp at he) | exact d0_nil (fun e he => by simp at he) | exact dm_nil (fun e he => by simp at he)), ?_⟩
    refine Goes.step rfl (fun _ h₁ => ?_)
    replace hF := lv_rely hF h₁
    clear h₁
    rw [stepG_region]
    simp only [goes_go, List.size_toArray, List.length_cons, List.length_nil, Nat.reduceAdd, Nat.zero_add, List.range, List.range.loop]
    refine ⟨(by first | exact dc0_none (fun e he => by simp at he) | exact ds_none (fun e he => by simp at he) | exact d0_nil (fun e he => by simp at he) | exact dm_nil (fun e he => by simp at he)), ?_⟩
    refine Goes.step rfl (fun _ h₁ => ?_)
    replace hF := lv_rely hF h₁
    clear h₁
    refine goes_oper_k rfl rfl (by k_ne) (fun K hK => ?_)
    go_simp
    refine hK _ _ ⟨?_, ?_⟩
    · first | refine dc0_none ?_ | refine ds_none ?_ | refine d0_nil ?_ | refine dm_nil ?_
      intro e he
      have hm := mem_listed he
      simp [go_sem, *] at hm
    clear hK K
    try w_num
    refine Goes.step rfl (fun _ h₁ => ?_)
    replace hF := lv_rely hF h₁
    clear h₁
    refine goes_oper_k rfl rfl (by k_ne) (fun K hK => ?_)
    go_simp
    refine hK _ _ ⟨?_, ?_⟩
    · first | refine dc0_none ?_ | refine ds_none ?_ | refine d0_nil ?_ | refine dm_nil ?_
      intro e he
      have hm := mem_listed he
      simp [go_sem, *] at hm
    clear hK K
    try w_num
    refine Goes.step rfl (fun _ h₁ => ?_)
    replace hF := lv_rely hF h₁
    clear h₁
    refine goes_oper_k rfl rfl (by k_ne) (fun K hK => ?_)
    go_simp
    refine hK _ _ ⟨?_, ?_⟩
    · first | refine dc0_none ?_ | refine ds_none ?_ | refine d0_nil ?_ | refine dm_nil ?_
      intro e he
      have hm := mem_listed he
      simp [go_sem, *] at hm
    clear hK K
    try w_num
    refine Goes.stop (fun w₄ h₄ => ?_)
    clear h₄ hF
    refine ⟨rfl, mayWake_entry rfl rfl H.f_semrelease (x_semrelease_b L), fun hw => ⟨_, (stepG_semrelease rfl rfl (by k_ne) rfl H.f_semrelease (x_semrelease_n L) (x_semrelease_b L) (x_semrelease_x L) (x_semrelease_f L) (by simp [Act.eval, smA]) hw.cellSm (hw.thaw 1)).trans (by rfl), rfl, qt + 19, ?_⟩⟩
    clear hw
    walk_nrm
    q_c stepG_region_end
    q_c stepG_inBlock
    q_reg
    q_val (.int .u32 1)
    q_val (.int .u32 0)
    q_val (.int .u32 0)
    q_c stepG_region_end
    q_c stepG_inLoop
    q_c stepG_seq
    q_c stepG_seq
    q_reg
    q_val (.int .u32 0)
    q_val (.bool false)
    q_c stepG_region_end
    q_cond false
    q_exit
    q_c stepG_end
    q_enable
    q_leave0 H.f_add
    exact hT
  · replace hw := wgAt_to hw (show _ = ((v : Nat) + 1) * KK + 0 by simp) rfl
    have z : ((v : Nat) : Int) * KK + ((0 : Nat) : Int) = (v : Int) * KK + 0 := by simp
    rw [z]
    have hv0 : 0 < v := by omega
    have eS : IntKind.u64.wrap (((v : Nat) + 1) * KK + 0 + 18446744069414584320) = (v : Int) * KK + 0 := by rw [IntKind.wrap_u64]; simp only [KK]; omega
    obtain ⟨S, hS⟩ : ∃ S : Int, S = (v : Int) * KK + 0 := ⟨_, rfl⟩
    rw [← hS] at eS ⊢
    have a1 : S / 4294967296 = (v : Int) := by rw [hS]; simp only [KK]; omega
    have a2 : 0 ≤ S ∧ S < 9223372036854775808 := by rw [hS]; simp only [KK]; omega
    have b1 : bits .and .u64 S 2147483648 = 0 := by rw [hS]; have := st_flag v 0 (by omega) (by omega); simpa [KK] using this
    have b2 : bits .and .u64 S 2147483647 = 0 := by rw [hS]; have := st_waiters v 0 (by omega) (by omega); simpa [KK] using this
    clear hS z
    refine ⟨_, (stepG_add_atomic rfl rfl (by k_ne) rfl H.f_addU64 (x_addU64_n L) (x_addU64_b L) (x_addU64_x L) .u64 (x_addU64_f L) rfl rfl hw.cellSt (hw.thaw 0)).trans (by rw [eS]; rfl), fun hl => absurd hl.1 (by omega), fun _ => ⟨qt + 89, ?_⟩⟩
    clear hw
    walk_nrm
    q_vn (.int .u64 S)
    q_c stepG_region_end
    q_c stepG_ret'
    q_leave1 H.f_uAdd
    q_vn (.int .u64 S)
    q_c stepG_region_end
    q_c stepG_seq
    q_c stepG_seq
    q_reg
    q_vn (.int .u64 S)
    q_vn (.int .u64 0)
    q_vn (.bool false)
    q_vn (.bool false)
    q_skip
    q_skip
    q_vn (.bool false)
    q_c stepG_region_end
    q_cond false
    q_c stepG_skip
    q_c stepG_seq
    q_reg
    q_vn (.int .u64 S)
    q_vn (.int .u64 (v : Int))
    q_vn (.int .i32 (v : Int))
    q_vn (.int .i32 (v : Int))
    q_c stepG_region_end
    q_c stepG_seq
    q_reg
    q_vn (.int .u64 S)
    q_vn (.int .u64 0)
    q_vn (.int .u32 0)
    q_vn (.int .u32 0)
    q_c stepG_region_end
    q_c stepG_seq
    q_c stepG_seq
    q_reg
    q_vn (.bool true)
    q_vn (.int .i64 (-1))
    q_vn (.bool false)
    q_vn (.bool false)
    q_vn (.bool false)
    q_skip
    q_skip
    q_skip
    q_skip
    q_vn (.bool false)
    q_c stepG_region_end
    q_cond false
    q_c stepG_skip
    q_c stepG_seq
    q_c stepG_seq
    q_reg
    q_vn (.int .i32 (v : Int))
    q_vn (.bool false)
    q_c stepG_region_end
    q_cond false
    q_c stepG_skip
    q_c stepG_seq
    q_c stepG_seq
    q_reg
    q_vn (.int .u32 0)
    q_vn (.bool false)
    q_vn (.bool false)
    q_skip
    q_skip
    q_vn (.bool false)
    q_vn (.bool false)
    q_skip
    q_skip
    q_skip
    q_skip
    q_vn (.bool false)
    q_c stepG_region_end
    q_cond false
    q_c stepG_skip
    q_c stepG_seq
    q_c stepG_seq
    q_reg
    q_vn (.int .i32 (v : Int))
    q_vn (.bool true)
    q_vn (.bool true)
    q_skip
    q_skip
    q_vn (.bool true)
    q_c stepG_region_end
    q_cond true
    q_c stepG_ret'
    q_enable
    q_leave0 H.f_add
    exact hT
  · replace hw := wgAt_to hw (show _ = ((v : Nat) + 1) * KK + 1 by simp) rfl
    have z : ((v : Nat) : Int) * KK + ((1 : Nat) : Int) = (v : Int) * KK + 1 := by simp
    rw [z]
    have hv0 : 0 < v := by omega
    have eS : IntKind.u64.wrap (((v : Nat) + 1) * KK + 1 + 18446744069414584320) = (v : Int) * KK + 1 := by rw [IntKind.wrap_u64]; simp only [KK]; omega
    obtain ⟨S, hS⟩ : ∃ S : Int, S = (v : Int) * KK + 1 := ⟨_, rfl⟩
    rw [← hS] at eS ⊢
    have a1 : S / 4294967296 = (v : Int) := by rw [hS]; simp only [KK]; omega
    have a2 : 0 ≤ S ∧ S < 9223372036854775808 := by rw [hS]; simp only [KK]; omega
    have b1 : bits .and .u64 S 2147483648 = 0 := by rw [hS]; have := st_flag v 1 (by omega) (by omega); simpa [KK] using this
    have b2 : bits .and .u64 S 2147483647 = 1 := by rw [hS]; have := st_waiters v 1 (by omega) (by omega); simpa [KK] using this
    clear hS z
    refine ⟨_, (stepG_add_atomic rfl rfl (by k_ne) rfl H.f_addU64 (x_addU64_n L) (x_addU64_b L) (x_addU64_x L) .u64 (x_addU64_f L) rfl rfl hw.cellSt (hw.thaw 0)).trans (by rw [eS]; rfl), fun hl => absurd hl.1 (by omega), fun _ => ⟨qt + 89, ?_⟩⟩
    clear hw
    walk_nrm
    q_vn (.int .u64 S)
    q_c stepG_region_end
    q_c stepG_ret'
    q_leave1 H.f_uAdd
    q_vn (.int .u64 S)
    q_c stepG_region_end
    q_c stepG_seq
    q_c stepG_seq
    q_reg
    q_vn (.int .u64 S)
    q_vn (.int .u64 0)
    q_vn (.bool false)
    q_vn (.bool false)
    q_skip
    q_skip
    q_vn (.bool false)
    q_c stepG_region_end
    q_cond false
    q_c stepG_skip
    q_c stepG_seq
    q_reg
    q_vn (.int .u64 S)
    q_vn (.int .u64 (v : Int))
    q_vn (.int .i32 (v : Int))
    q_vn (.int .i32 (v : Int))
    q_c stepG_region_end
    q_c stepG_seq
    q_reg
    q_vn (.int .u64 S)
    q_vn (.int .u64 1)
    q_vn (.int .u32 1)
    q_vn (.int .u32 1)
    q_c stepG_region_end
    q_c stepG_seq
    q_c stepG_seq
    q_reg
    q_vn (.bool true)
    q_vn (.int .i64 (-1))
    q_vn (.bool false)
    q_vn (.bool false)
    q_vn (.bool false)
    q_skip
    q_skip
    q_skip
    q_skip
    q_vn (.bool false)
    q_c stepG_region_end
    q_cond false
    q_c stepG_skip
    q_c stepG_seq
    q_c stepG_seq
    q_reg
    q_vn (.int .i32 (v : Int))
    q_vn (.bool false)
    q_c stepG_region_end
    q_cond false
    q_c stepG_skip
    q_c stepG_seq
    q_c stepG_seq
    q_reg
    q_vn (.int .u32 1)
    q_vn (.bool true)
    q_vn (.bool true)
    q_vn (.int .i64 (-1))
    q_vn (.bool false)
    q_vn (.bool false)
    q_vn (.bool false)
    q_skip
    q_skip
    q_skip
    q_skip
    q_vn (.bool false)
    q_c stepG_region_end
    q_cond false
    q_c stepG_skip
    q_c stepG_seq
    q_c stepG_seq
    q_reg
    q_vn (.int .i32 (v : Int))
    q_vn (.bool true)
    q_vn (.bool true)
    q_skip
    q_skip
    q_vn (.bool true)
    q_c stepG_region_end
    q_cond true
    q_c stepG_ret'
    q_enable
    q_leave0 H.f_add
    exact hT
set_option maxRecDepth 100000 in
set_option maxHeartbeats 20000000 in
theorem doneP (H : WgLib P L) (ety : E.ty = L.tWg) (hT : QuitsD P qt 0 (G (b₀.at (a₀.put ((ops₀[i₀]?).bind (·.dst)) (.tuple #[])) (.inRegion ops₀ rest₀ :: k₀)) cs)) (w : World) (hF : WgLive E.ty E.Wg w) :
    Goes P false (RM E Mine) DC0 (WRel P E Mine) 23 (G ((base L.done).at ⟨#[.pointer (some ⟨E.Wg, 0, none⟩), undef, undef, undef], []⟩ [.code (body_done L)]) (b₀.at a₀ (.inRegion ops₀ (i₀ :: rest₀) :: k₀) :: cs)) w := by
  lib_facts
  have hA := @addNegP P L E Mine
  simp only [body_done, body_add, doneFn, addFn, Option.getD_some] at hA ⊢
  refine Goes.step rfl (fun _ h₁ => ?_)
  replace hF := lv_rely hF h₁
  clear h₁
  rw [stepG_region]
  simp only [goes_go, List.size_toArray, List.length_cons, List.length_nil, Nat.reduceAdd, Nat.zero_add, List.range, List.range.loop]
  refine ⟨(by first | exact dc0_none (fun e he => by simp at he) | exact ds_none (fun e he => by simp at he) | exact d0_nil (fun e he => by simp at he) | exact dm_nil (fun e he => by simp at he)), ?_⟩
  refine Goes.step rfl (fun _ h₁ => ?_)
  replace hF := lv_rely hF h₁
  clear h₁
  refine goes_oper_k rfl rfl (by k_ne) (fun K hK => ?_)
  go_simp
  refine hK _ _ ⟨?_, ?_⟩
  · first | refine dc0_none ?_ | refine ds_none ?_ | refine d0_nil ?_ | refine dm_nil ?_
    intro e he
    have hm := mem_listed he
    simp [go_sem, *] at hm
  clear hK K
  try w_num
  refine Goes.step rfl (fun _ h₁ => ?_)
  replace hF := lv_rely hF h₁
  clear h₁
  refine goes_call rfl rfl (by k_ne) rfl H.f_add (nm_add L) rfl ⟨(by first | exact dc0_none (fun e he => by simp at he) | exact ds_none (fun e he => by simp at he) | exact d0_nil (fun e he => by simp at he) | exact dm_nil (fun e he => by simp at he)), ?_⟩
  walk_nrmf addFn
  refine hA (qt := qt + 3) H ety ?_ _ hF
  q_c stepG_region_end
  q_c stepG_end
  q_leave0 H.f_done
  exact hT
end Go.Proofs.Ytiobhgemjbjipaa
