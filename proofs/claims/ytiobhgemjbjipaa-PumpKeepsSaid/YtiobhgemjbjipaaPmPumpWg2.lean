/- sync.WaitGroup under this call's own rely: Add(1), by the first. Printed by gen_wg.py. Conditions stand as premises. -/
import Derived.Test.YtiobhgemjbjipaaPmPumpWg1
set_option linter.unusedSimpArgs false
set_option linter.unusedVariables false
namespace Go.Proofs.Ytiobhgemjbjipaa
open Go.Conc Go.RowKit Go.Conc.Lib Go.ConcR.Gen Go.ConcN.Gen
open Go.ConcR (KK wgBlock WgAt stA smA rd wr mk DC0)
open Go.ConcN (WgLive st_flag st_waiters)
variable {P : Program} {L : WgLink} {E : PE} {Mine : Nat → Prop} {c : Frame} {cs : List Frame} {qt mT : Nat} {b₀ : Frame} {a₀ : Act} {ops₀ : Array Oper} {i₀ : Nat} {rest₀ : List Nat} {k₀ : List Item}
variable {N k : Nat} {Next : Nat → Goroutine → World → Prop} {F : World → Prop}
theorem f0_rely (hFr : ∀ w w₁, R0 E w w₁ → F w → F w₁) {w w₁ : World} (h : F w ∧ WgLive E.ty E.Wg w) (r : R0 E w w₁) : F w₁ ∧ WgLive E.ty E.Wg w₁ := ⟨hFr _ _ r h.1, r.live h.2⟩
set_option maxRecDepth 100000 in
set_option maxHeartbeats 20000000 in
theorem addPosP (H : WgLib P L) (ety : E.ty = L.tWg) (hFr : ∀ w w₁, R0 E w w₁ → F w → F w₁) (hFw : ∀ w v, F w → WgLive E.ty E.Wg (w.setCell (stA E.Wg) v) → F (w.setCell (stA E.Wg) v))
    (hT : ∀ w, F w → WgLive E.ty E.Wg w → Goes P true (R0 E) (D0 E N) (MGo P E k Next) mT (G (b₀.at (a₀.put ((ops₀[i₀]?).bind (·.dst)) (.tuple #[])) (.inRegion ops₀ rest₀ :: k₀)) cs) w) (w : World) (hF : F w ∧ WgLive E.ty E.Wg w) :
    Goes P true (R0 E) (D0 E N) (MDis P E N k Next) 12 (G ((base L.add).at ⟨#[.pointer (some ⟨E.Wg, 0, none⟩), .int .i64 1, undef, undef, undef, undef, undef, undef, undef, undef, undef, undef, undef, undef, undef, undef, undef, undef, undef, undef, undef, undef, undef, undef, undef, undef, undef, undef, undef, undef, undef, undef, undef, undef, undef, undef, undef, undef, undef, undef, undef, undef, undef, undef, undef, undef, undef, undef, undef, undef, undef, undef, undef, undef, undef, undef, undef, undef, undef, undef, undef, undef, undef, undef, undef, undef, undef, undef, undef, undef, undef, undef, undef, undef, undef, undef, undef, undef, undef, undef, undef, undef, undef, undef, undef, undef, undef, undef, undef, undef, undef, undef, undef, undef, undef, undef, undef, undef, undef, undef, undef, undef, undef, undef, undef, undef, undef, undef, undef, undef, undef, undef, undef, undef, undef, undef, undef], []⟩ [.code (body_add L)]) (b₀.at a₀ (.inRegion ops₀ (i₀ :: rest₀) :: k₀) :: cs)) w := by
  lib_facts
  simp only [body_add, addFn, Option.getD_some]
  refine Goes.step rfl (fun _ h₁ => ?_)
  replace hF := (f0_rely hFr) hF h₁
  clear h₁
  rw [stepG_seq]
  simp only [goes_go]
  refine ⟨(by first | exact dc0_none (fun e he => by simp at he) | exact ds_none (fun e he => by simp at he) | exact d0_nil (fun e he => by simp at he) | exact dm_nil (fun e he => by simp at he)), ?_⟩
  refine Goes.step rfl (fun _ h₁ => ?_)
  replace hF := (f0_rely hFr) hF h₁
  clear h₁
  rw [stepG_cond (t := true) rfl]
  simp only [goes_go, if_true, if_false, Bool.false_eq_true, ↓reduceIte]
  refine ⟨(by first | exact dc0_none (fun e he => by simp at he) | exact ds_none (fun e he => by simp at he) | exact d0_nil (fun e he => by simp at he) | exact dm_nil (fun e he => by simp at he)), ?_⟩
  refine Goes.step rfl (fun _ h₁ => ?_)
  replace hF := (f0_rely hFr) hF h₁
  clear h₁
  rw [stepG_seq]
  simp only [goes_go]
  refine ⟨(by first | exact dc0_none (fun e he => by simp at he) | exact ds_none (fun e he => by simp at he) | exact d0_nil (fun e he => by simp at he) | exact dm_nil (fun e he => by simp at he)), ?_⟩
  refine Goes.step rfl (fun _ h₁ => ?_)
  replace hF := (f0_rely hFr) hF h₁
  clear h₁
  rw [stepG_seq]
  simp only [goes_go]
  refine ⟨(by first | exact dc0_none (fun e he => by simp at he) | exact ds_none (fun e he => by simp at he) | exact d0_nil (fun e he => by simp at he) | exact dm_nil (fun e he => by simp at he)), ?_⟩
  refine Goes.step rfl (fun _ h₁ => ?_)
  replace hF := (f0_rely hFr) hF h₁
  clear h₁
  rw [stepG_region]
  simp only [goes_go, List.size_toArray, List.length_cons, List.length_nil, Nat.reduceAdd, Nat.zero_add, List.range, List.range.loop]
  refine ⟨(by first | exact dc0_none (fun e he => by simp at he) | exact ds_none (fun e he => by simp at he) | exact d0_nil (fun e he => by simp at he) | exact dm_nil (fun e he => by simp at he)), ?_⟩
  refine Goes.step rfl (fun _ h₁ => ?_)
  replace hF := (f0_rely hFr) hF h₁
  clear h₁
  refine goes_oper_k rfl rfl (by k_ne) (fun K hK => ?_)
  go_simp
  refine hK _ _ ⟨?_, ?_⟩
  · first | refine dc0_none ?_ | refine ds_none ?_ | refine d0_nil ?_ | refine dm_nil ?_
    intro e he
    have hm := mem_listed he
    simp [go_sem, *] at hm
  clear hK K
  try w_num
  refine Goes.step rfl (fun _ h₁ => ?_)
  replace hF := (f0_rely hFr) hF h₁
  clear h₁
  refine goes_oper_k rfl rfl (by k_ne) (fun K hK => ?_)
  go_simp
  refine hK _ _ ⟨?_, ?_⟩
  · first | refine dc0_none ?_ | refine ds_none ?_ | refine d0_nil ?_ | refine dm_nil ?_
    intro e he
    have hm := mem_listed he
    simp [go_sem, *] at hm
  clear hK K
  try w_num
  refine Goes.step rfl (fun _ h₁ => ?_)
  replace hF := (f0_rely hFr) hF h₁
  clear h₁
  rw [stepG_region_end]
  simp only [goes_go]
  refine ⟨(by first | exact dc0_none (fun e he => by simp at he) | exact ds_none (fun e he => by simp at he) | exact d0_nil (fun e he => by simp at he) | exact dm_nil (fun e he => by simp at he)), ?_⟩
  refine Goes.step rfl (fun _ h₁ => ?_)
  replace hF := (f0_rely hFr) hF h₁
  clear h₁
  rw [stepG_cond (t := false) rfl]
  simp only [goes_go, if_true, if_false, Bool.false_eq_true, ↓reduceIte]
  refine ⟨(by first | exact dc0_none (fun e he => by simp at he) | exact ds_none (fun e he => by simp at he) | exact d0_nil (fun e he => by simp at he) | exact dm_nil (fun e he => by simp at he)), ?_⟩
  refine Goes.step rfl (fun _ h₁ => ?_)
  replace hF := (f0_rely hFr) hF h₁
  clear h₁
  rw [stepG_skip]
  simp only [goes_go]
  refine ⟨(by first | exact dc0_none (fun e he => by simp at he) | exact ds_none (fun e he => by simp at he) | exact d0_nil (fun e he => by simp at he) | exact dm_nil (fun e he => by simp at he)), ?_⟩
  refine Goes.step rfl (fun _ h₁ => ?_)
  replace hF := (f0_rely hFr) hF h₁
  clear h₁
  rw [stepG_seq]
  simp only [goes_go]
  refine ⟨(by first | exact dc0_none (fun e he => by simp at he) | exact ds_none (fun e he => by simp at he) | exact d0_nil (fun e he => by simp at he) | exact dm_nil (fun e he => by simp at he)), ?_⟩
  refine Goes.step rfl (fun _ h₁ => ?_)
  replace hF := (f0_rely hFr) hF h₁
  clear h₁
  rw [stepG_region]
  simp only [goes_go, List.size_toArray, List.length_cons, List.length_nil, Nat.reduceAdd, Nat.zero_add, List.range, List.range.loop]
  refine ⟨(by first | exact dc0_none (fun e he => by simp at he) | exact ds_none (fun e he => by simp at he) | exact d0_nil (fun e he => by simp at he) | exact dm_nil (fun e he => by simp at he)), ?_⟩
  refine Goes.stop (fun w1 h₁ => ?_)
  replace hF := (f0_rely hFr) hF h₁
  clear h₁
  refine ⟨rfl, _, stepG_mark0 .disable (by simp) rfl rfl (by k_ne) rfl H.f_disable (x_disable_n L) (x_disable_b L) (x_disable_x L) (x_disable_f L), 40, ?_⟩
  walk_nrm
  refine Goes.step rfl (fun _ h₁ => ?_)
  replace hF := (f0_rely hFr) hF h₁
  clear h₁
  rw [stepG_region_end]
  simp only [goes_go]
  refine ⟨(by first | exact dc0_none (fun e he => by simp at he) | exact ds_none (fun e he => by simp at he) | exact d0_nil (fun e he => by simp at he) | exact dm_nil (fun e he => by simp at he)), ?_⟩
  refine Goes.step rfl (fun _ h₁ => ?_)
  replace hF := (f0_rely hFr) hF h₁
  clear h₁
  rw [stepG_region]
  simp only [goes_go, List.size_toArray, List.length_cons, List.length_nil, Nat.reduceAdd, Nat.zero_add, List.range, List.range.loop]
  refine ⟨(by first | exact dc0_none (fun e he => by simp at he) | exact ds_none (fun e he => by simp at he) | exact d0_nil (fun e he => by simp at he) | exact dm_nil (fun e he => by simp at he)), ?_⟩
  refine Goes.step rfl (fun _ h₁ => ?_)
  replace hF := (f0_rely hFr) hF h₁
  clear h₁
  rw [stepG_defer rfl rfl (by k_ne) rfl]
  simp only [goes_go]
  refine ⟨(by first | exact dc0_none (fun e he => by simp at he) | exact ds_none (fun e he => by simp at he) | exact d0_nil (fun e he => by simp at he) | exact dm_nil (fun e he => by simp at he)), ?_⟩
  walk_nrm
  refine Goes.step rfl (fun _ h₁ => ?_)
  replace hF := (f0_rely hFr) hF h₁
  clear h₁
  rw [stepG_region_end]
  simp only [goes_go]
  refine ⟨(by first | exact dc0_none (fun e he => by simp at he) | exact ds_none (fun e he => by simp at he) | exact d0_nil (fun e he => by simp at he) | exact dm_nil (fun e he => by simp at he)), ?_⟩
  refine Goes.step rfl (fun _ h₁ => ?_)
  replace hF := (f0_rely hFr) hF h₁
  clear h₁
  rw [stepG_seq]
  simp only [goes_go]
  refine ⟨(by first | exact dc0_none (fun e he => by simp at he) | exact ds_none (fun e he => by simp at he) | exact d0_nil (fun e he => by simp at he) | exact dm_nil (fun e he => by simp at he)), ?_⟩
  refine Goes.step rfl (fun _ h₁ => ?_)
  replace hF := (f0_rely hFr) hF h₁
  clear h₁
  rw [stepG_region]
  simp only [goes_go, List.size_toArray, List.length_cons, List.length_nil, Nat.reduceAdd, Nat.zero_add, List.range, List.range.loop]
  refine ⟨(by first | exact dc0_none (fun e he => by simp at he) | exact ds_none (fun e he => by simp at he) | exact d0_nil (fun e he => by simp at he) | exact dm_nil (fun e he => by simp at he)), ?_⟩
  refine Goes.step rfl (fun _ h₁ => ?_)
  replace hF := (f0_rely hFr) hF h₁
  clear h₁
  refine goes_oper_k rfl rfl (by k_ne) (fun K hK => ?_)
  go_simp
  refine hK _ _ ⟨?_, ?_⟩
  · first | refine dc0_none ?_ | refine ds_none ?_ | refine d0_nil ?_ | refine dm_nil ?_
    intro e he
    have hm := mem_listed he
    simp [go_sem, *] at hm
  clear hK K
  try w_num
  refine Goes.step rfl (fun _ h₁ => ?_)
  replace hF := (f0_rely hFr) hF h₁
  clear h₁
  rw [stepG_region_end]
  simp only [goes_go]
  refine ⟨(by first | exact dc0_none (fun e he => by simp at he) | exact ds_none (fun e he => by simp at he) | exact d0_nil (fun e he => by simp at he) | exact dm_nil (fun e he => by simp at he)), ?_⟩
  refine Goes.step rfl (fun _ h₁ => ?_)
  replace hF := (f0_rely hFr) hF h₁
  clear h₁
  rw [stepG_seq]
  simp only [goes_go]
  refine ⟨(by first | exact dc0_none (fun e he => by simp at he) | exact ds_none (fun e he => by simp at he) | exact d0_nil (fun e he => by simp at he) | exact dm_nil (fun e he => by simp at he)), ?_⟩
  refine Goes.step rfl (fun _ h₁ => ?_)
  replace hF := (f0_rely hFr) hF h₁
  clear h₁
  rw [stepG_seq]
  simp only [goes_go]
  refine ⟨(by first | exact dc0_none (fun e he => by simp at he) | exact ds_none (fun e he => by simp at he) | exact d0_nil (fun e he => by simp at he) | exact dm_nil (fun e he => by simp at he)), ?_⟩
  refine Goes.step rfl (fun _ h₁ => ?_)
  replace hF := (f0_rely hFr) hF h₁
  clear h₁
  rw [stepG_region]
  simp only [goes_go, List.size_toArray, List.length_cons, List.length_nil, Nat.reduceAdd, Nat.zero_add, List.range, List.range.loop]
  refine ⟨(by first | exact dc0_none (fun e he => by simp at he) | exact ds_none (fun e he => by simp at he) | exact d0_nil (fun e he => by simp at he) | exact dm_nil (fun e he => by simp at he)), ?_⟩
  refine Goes.step rfl (fun _ h₁ => ?_)
  replace hF := (f0_rely hFr) hF h₁
  clear h₁
  rw [stepG_entry_pure (.bool false) rfl rfl (by k_ne) rfl H.f_inBubble (x_inBubble_n L) (x_inBubble_b L) (x_inBubble_x L) (x_inBubble_f L)]
  simp only [goes_go]
  refine ⟨(by first | exact dc0_none (fun e he => by simp at he) | exact ds_none (fun e he => by simp at he) | exact d0_nil (fun e he => by simp at he) | exact dm_nil (fun e he => by simp at he)), ?_⟩
  walk_nrm
  refine Goes.step rfl (fun _ h₁ => ?_)
  replace hF := (f0_rely hFr) hF h₁
  clear h₁
  rw [stepG_region_end]
  simp only [goes_go]
  refine ⟨(by first | exact dc0_none (fun e he => by simp at he) | exact ds_none (fun e he => by simp at he) | exact d0_nil (fun e he => by simp at he) | exact dm_nil (fun e he => by simp at he)), ?_⟩
  refine Goes.step rfl (fun _ h₁ => ?_)
  replace hF := (f0_rely hFr) hF h₁
  clear h₁
  rw [stepG_cond (t := false) rfl]
  simp only [goes_go, if_true, if_false, Bool.false_eq_true, ↓reduceIte]
  refine ⟨(by first | exact dc0_none (fun e he => by simp at he) | exact ds_none (fun e he => by simp at he) | exact d0_nil (fun e he => by simp at he) | exact dm_nil (fun e he => by simp at he)), ?_⟩
  refine Goes.step rfl (fun _ h₁ => ?_)
  replace hF := (f0_rely hFr) hF h₁
  clear h₁
  rw [stepG_skip]
  simp only [goes_go]
  refine ⟨(by first | exact dc0_none (fun e he => by simp at he) | exact ds_none (fun e he => by simp at he) | exact d0_nil (fun e he => by simp at he) | exact dm_nil (fun e he => by simp at he)), ?_⟩
  refine Goes.step rfl (fun _ h₁ => ?_)
  replace hF := (f0_rely hFr) hF h₁
  clear h₁
  rw [stepG_seq]
  simp only [goes_go]
  refine ⟨(by first | exact dc0_none (fun e he => by simp at he) | exact ds_none (fun e he => by simp at he) | exact d0_nil (fun e he => by simp at he) | exact dm_nil (fun e he => by simp at he)), ?_⟩
  refine Goes.step rfl (fun _ h₁ => ?_)
  replace hF := (f0_rely hFr) hF h₁
  clear h₁
  rw [stepG_region]
  simp only [goes_go, List.size_toArray, List.length_cons, List.length_nil, Nat.reduceAdd, Nat.zero_add, List.range, List.range.loop]
  refine ⟨(by first | exact dc0_none (fun e he => by simp at he) | exact ds_none (fun e he => by simp at he) | exact d0_nil (fun e he => by simp at he) | exact dm_nil (fun e he => by simp at he)), ?_⟩
  refine Goes.step rfl (fun _ h₁ => ?_)
  replace hF := (f0_rely hFr) hF h₁
  clear h₁
  refine goes_oper_k rfl rfl (by k_ne) (fun K hK => ?_)
  go_simp
  refine hK _ _ ⟨?_, ?_⟩
  · first | refine dc0_none ?_ | refine ds_none ?_ | refine d0_nil ?_ | refine dm_nil ?_
    intro e he
    have hm := mem_listed he
    simp [go_sem, *] at hm
  clear hK K
  try w_num
  refine Goes.step rfl (fun _ h₁ => ?_)
  replace hF := (f0_rely hFr) hF h₁
  clear h₁
  refine goes_oper_k rfl rfl (by k_ne) (fun K hK => ?_)
  go_simp
  refine hK _ _ ⟨?_, ?_⟩
  · first | refine dc0_none ?_ | refine ds_none ?_ | refine d0_nil ?_ | refine dm_nil ?_
    intro e he
    have hm := mem_listed he
    simp [go_sem, *] at hm
  clear hK K
  try w_num
  refine Goes.step rfl (fun _ h₁ => ?_)
  replace hF := (f0_rely hFr) hF h₁
  clear h₁
  refine goes_oper_k rfl rfl (by k_ne) (fun K hK => ?_)
  go_simp
  refine hK _ _ ⟨?_, ?_⟩
  · first | refine dc0_none ?_ | refine ds_none ?_ | refine d0_nil ?_ | refine dm_nil ?_
    intro e he
    have hm := mem_listed he
    simp [go_sem, *] at hm
  clear hK K
  try w_num
  refine Goes.step rfl (fun _ h₁ => ?_)
  replace hF := (f0_rely hFr) hF h₁
  clear h₁
  refine goes_oper_k rfl rfl (by k_ne) (fun K hK => ?_)
  go_simp
  refine hK _ _ ⟨?_, ?_⟩
  · first | refine dc0_none ?_ | refine ds_none ?_ | refine d0_nil ?_ | refine dm_nil ?_
    intro e he
    have hm := mem_listed he
    simp [go_sem, *] at hm
  clear hK K
  try w_num
  refine Goes.step rfl (fun _ h₁ => ?_)
  replace hF := (f0_rely hFr) hF h₁
  clear h₁
  refine goes_oper_k rfl rfl (by k_ne) (fun K hK => ?_)
  go_simp
  refine hK _ _ ⟨?_, ?_⟩
  · first | refine dc0_none ?_ | refine ds_none ?_ | refine d0_nil ?_ | refine dm_nil ?_
    intro e he
    have hm := mem_listed he
    simp [go_sem, *] at hm
  clear hK K
  try w_num
  refine Goes.step rfl (fun _ h₁ => ?_)
  replace hF := (f0_rely hFr) hF h₁
  clear h₁
  refine goes_oper_k rfl rfl (by k_ne) (fun K hK => ?_)
  go_simp
  refine hK _ _ ⟨?_, ?_⟩
  · first | refine dc0_none ?_ | refine ds_none ?_ | refine d0_nil ?_ | refine dm_nil ?_
    intro e he
    have hm := mem_listed he
    simp [go_sem, *] at hm
  clear hK K
  try w_num
  refine Goes.step rfl (fun _ h₁ => ?_)
  replace hF := (f0_rely hFr) hF h₁
  clear h₁
  refine goes_call rfl rfl (by k_ne) rfl H.f_uAdd (nm_uAdd L) rfl ⟨(by first | exact dc0_none (fun e he => by simp at he) | exact ds_none (fun e he => by simp at he) | exact d0_nil (fun e he => by simp at he) | exact dm_nil (fun e he => by simp at he)), ?_⟩
  walk_nrmf uAddFn
  refine Goes.step rfl (fun _ h₁ => ?_)
  replace hF := (f0_rely hFr) hF h₁
  clear h₁
  rw [stepG_seq]
  simp only [goes_go]
  refine ⟨(by first | exact dc0_none (fun e he => by simp at he) | exact ds_none (fun e he => by simp at he) | exact d0_nil (fun e he => by simp at he) | exact dm_nil (fun e he => by simp at he)), ?_⟩
  refine Goes.step rfl (fun _ h₁ => ?_)
  replace hF := (f0_rely hFr) hF h₁
  clear h₁
  rw [stepG_region]
  simp only [goes_go, List.size_toArray, List.length_cons, List.length_nil, Nat.reduceAdd, Nat.zero_add, List.range, List.range.loop]
  refine ⟨(by first | exact dc0_none (fun e he => by simp at he) | exact ds_none (fun e he => by simp at he) | exact d0_nil (fun e he => by simp at he) | exact dm_nil (fun e he => by simp at he)), ?_⟩
  refine Goes.step rfl (fun _ h₁ => ?_)
  replace hF := (f0_rely hFr) hF h₁
  clear h₁
  refine goes_oper_k rfl rfl (by k_ne) (fun K hK => ?_)
  go_simp
  refine hK _ _ ⟨?_, ?_⟩
  · first | refine dc0_none ?_ | refine ds_none ?_ | refine d0_nil ?_ | refine dm_nil ?_
    intro e he
    have hm := mem_listed he
    simp [go_sem, *] at hm
  clear hK K
  try w_num
  refine Goes.step rfl (fun _ h₁ => ?_)
  replace hF := (f0_rely hFr) hF h₁
  clear h₁
  rw [stepG_region_end]
  simp only [goes_go]
  refine ⟨(by first | exact dc0_none (fun e he => by simp at he) | exact ds_none (fun e he => by simp at he) | exact d0_nil (fun e he => by simp at he) | exact dm_nil (fun e he => by simp at he)), ?_⟩
  refine Goes.step rfl (fun _ h₁ => ?_)
  replace hF := (f0_rely hFr) hF h₁
  clear h₁
  rw [stepG_seq]
  simp only [goes_go]
  refine ⟨(by first | exact dc0_none (fun e he => by simp at he) | exact ds_none (fun e he => by simp at he) | exact d0_nil (fun e he => by simp at he) | exact dm_nil (fun e he => by simp at he)), ?_⟩
  refine Goes.step rfl (fun _ h₁ => ?_)
  replace hF := (f0_rely hFr) hF h₁
  clear h₁
  rw [stepG_region]
  simp only [goes_go, List.size_toArray, List.length_cons, List.length_nil, Nat.reduceAdd, Nat.zero_add, List.range, List.range.loop]
  refine ⟨(by first | exact dc0_none (fun e he => by simp at he) | exact ds_none (fun e he => by simp at he) | exact d0_nil (fun e he => by simp at he) | exact dm_nil (fun e he => by simp at he)), ?_⟩
  refine Goes.step rfl (fun _ h₁ => ?_)
  replace hF := (f0_rely hFr) hF h₁
  clear h₁
  refine goes_oper_k rfl rfl (by k_ne) (fun K hK => ?_)
  go_simp
  refine hK _ _ ⟨?_, ?_⟩
  · first | refine dc0_none ?_ | refine ds_none ?_ | refine d0_nil ?_ | refine dm_nil ?_
    intro e he
    have hm := mem_listed he
    simp [go_sem, *] at hm
  clear hK K
  try w_num
  refine Goes.step rfl (fun _ h₁ => ?_)
  replace hF := (f0_rely hFr) hF h₁
  clear h₁
  refine goes_oper_k rfl rfl (by k_ne) (fun K hK => ?_)
  go_simp
  refine hK _ _ ⟨?_, ?_⟩
  · first | refine dc0_none ?_ | refine ds_none ?_ | refine d0_nil ?_ | refine dm_nil ?_
    intro e he
    have hm := mem_listed he
    simp [go_sem, *] at hm
  clear hK K
  try w_num
  refine Goes.step rfl (fun _ h₁ => ?_)
  replace hF := (f0_rely hFr) hF h₁
  clear h₁
  refine goes_oper_k rfl rfl (by k_ne) (fun K hK => ?_)
  go_simp
  refine hK _ _ ⟨?_, ?_⟩
  · first | refine dc0_none ?_ | refine ds_none ?_ | refine d0_nil ?_ | refine dm_nil ?_
    intro e he
    have hm := mem_listed he
    simp [go_sem, *] at hm
  clear hK K
  try w_num
  refine Goes.step rfl (fun _ h₁ => ?_)
  replace hF := (f0_rely hFr) hF h₁
  clear h₁
  refine goes_oper_k rfl rfl (by k_ne) (fun K hK => ?_)
  go_simp
  refine hK _ _ ⟨?_, ?_⟩
  · first | refine dc0_none ?_ | refine ds_none ?_ | refine d0_nil ?_ | refine dm_nil ?_
    intro e he
    have hm := mem_listed he
    simp [go_sem, *] at hm
  clear hK K
  try w_num
  refine Goes.stop (fun w₂ h₂ => ?_)
  replace hF := f0_rely hFr hF h₂
  clear h₂
  refine ⟨rfl, fun v hv hw => ?_⟩
  have hc : (((v + 1 : Nat)) : Int) = (v : Int) + 1 := by omega
  rw [hc]
  rcases Nat.eq_zero_or_pos v with rfl | hvp
  · replace hw : WgAt E.ty E.Wg w₂ 0 0 := by simpa using hw
    have z : (((0 : Nat) : Int) + 1) * KK = KK := by simp
    rw [z]
    have e0 : IntKind.u64.wrap (0 + 4294967296) = KK := by decide
    refine ⟨_, (stepG_add_atomic rfl rfl (by k_ne) rfl H.f_addU64 (x_addU64_n L) (x_addU64_b L) (x_addU64_x L) .u64 (x_addU64_f L) rfl rfl hw.cellSt (hw.thaw 0)).trans (by rw [e0]; rfl), 110, ?_⟩
    replace hF : F (w₂.setCell (stA E.Wg) (.int .u64 KK)) ∧ WgLive E.ty E.Wg (w₂.setCell (stA E.Wg) (.int .u64 KK)) := ⟨hFw _ _ hF.1 ⟨_, _, hw.setSt _⟩, ⟨_, _, hw.setSt _⟩⟩
    clear hw
    simp only [KK] at hF ⊢
    walk_nrm
    refine Goes.step rfl (fun _ h₁ => ?_)
    replace hF := (f0_rely hFr) hF h₁
    clear h₁
    refine goes_oper_k rfl rfl (by k_ne) (fun K hK => ?_)
    go_simp
    refine hK _ _ ⟨?_, ?_⟩
    · first | refine dc0_none ?_ | refine ds_none ?_ | refine d0_nil ?_ | refine dm_nil ?_
      intro e he
      have hm := mem_listed he
      simp [go_sem, *] at hm
    clear hK K
    try w_num
    refine Goes.step rfl (fun _ h₁ => ?_)
    replace hF := (f0_rely hFr) hF h₁
    clear h₁
    rw [stepG_region_end]
    simp only [goes_go]
    refine ⟨(by first | exact dc0_none (fun e he => by simp at he) | exact ds_none (fun e he => by simp at he) | exact d0_nil (fun e he => by simp at he) | exact dm_nil (fun e he => by simp at he)), ?_⟩
    refine Goes.step rfl (fun _ h₁ => ?_)
    replace hF := (f0_rely hFr) hF h₁
    clear h₁
    rw [stepG_ret']
    simp only [goes_go]
    refine ⟨(by first | exact dc0_none (fun e he => by simp at he) | exact ds_none (fun e he => by simp at he) | exact d0_nil (fun e he => by simp at he) | exact dm_nil (fun e he => by simp at he)), ?_⟩
    refine Goes.step rfl (fun _ h₁ => ?_)
    replace hF := (f0_rely hFr) hF h₁
    clear h₁
    refine goes_leave1 rfl rfl H.f_uAdd rfl ⟨(by first | exact dc0_none (fun e he => by simp at he) | exact ds_none (fun e he => by simp at he) | exact d0_nil (fun e he => by simp at he) | exact dm_nil (fun e he => by simp at he)), ?_⟩
    walk_nrm
    refine Goes.step rfl (fun _ h₁ => ?_)
    replace hF := (f0_rely hFr) hF h₁
    clear h₁
    refine goes_oper_k rfl rfl (by k_ne) (fun K hK => ?_)
    go_simp
    refine hK _ _ ⟨?_, ?_⟩
    · first | refine dc0_none ?_ | refine ds_none ?_ | refine d0_nil ?_ | refine dm_nil ?_
      intro e he
      have hm := mem_listed he
      simp [go_sem, *] at hm
    clear hK K
    try w_num
    refine Goes.step rfl (fun _ h₁ => ?_)
    replace hF := (f0_rely hFr) hF h₁
    clear h₁
    rw [stepG_region_end]
    simp only [goes_go]
    refine ⟨(by first | exact dc0_none (fun e he => by simp at he) | exact ds_none (fun e he => by simp at he) | exact d0_nil (fun e he => by simp at he) | exact dm_nil (fun e he => by simp at he)), ?_⟩
    refine Goes.step rfl (fun _ h₁ => ?_)
    replace hF := (f0_rely hFr) hF h₁
    clear h₁
    rw [stepG_seq]
    simp only [goes_go]
    refine ⟨(by first | exact dc0_none (fun e he => by simp at he) | exact ds_none (fun e he => by simp at he) | exact d0_nil (fun e he => by simp at he) | exact dm_nil (fun e he => by simp at he)), ?_⟩
    refine Goes.step rfl (fun _ h₁ => ?_)
    replace hF := (f0_rely hFr) hF h₁
    clear h₁
    rw [stepG_seq]
    simp only [goes_go]
    refine ⟨(by first | exact dc0_none (fun e he => by simp at he) | exact ds_none (fun e he => by simp at he) | exact d0_nil (fun e he => by simp at he) | exact dm_nil (fun e he => by simp at he)), ?_⟩
    refine Goes.step rfl (fun _ h₁ => ?_)
    replace hF := (f0_rely hFr) hF h₁
    clear h₁
    rw [stepG_region]
    simp only [goes_go, List.size_toArray, List.length_cons, List.length_nil, Nat.reduceAdd, Nat.zero_add, List.range, List.range.loop]
    refine ⟨(by first | exact dc0_none (fun e he => by simp at he) | exact ds_none (fun e he => by simp at he) | exact d0_nil (fun e he => by simp at he) | exact dm_nil (fun e he => by simp at he)), ?_⟩
    refine Goes.step rfl (fun _ h₁ => ?_)
    replace hF := (f0_rely hFr) hF h₁
    clear h₁
    refine goes_oper_k rfl rfl (by k_ne) (fun K hK => ?_)
    go_simp
    refine hK _ _ ⟨?_, ?_⟩
    · first | refine dc0_none ?_ | refine ds_none ?_ | refine d0_nil ?_ | refine dm_nil ?_
      intro e he
      have hm := mem_listed he
      simp [go_sem, *] at hm
    clear hK K
    try w_num
    refine Goes.step rfl (fun _ h₁ => ?_)
    replace hF := (f0_rely hFr) hF h₁
    clear h₁
    refine goes_oper_k rfl rfl (by k_ne) (fun K hK => ?_)
    go_simp
    refine hK _ _ ⟨?_, ?_⟩
    · first | refine dc0_none ?_ | refine ds_none ?_ | refine d0_nil ?_ | refine dm_nil ?_
      intro e he
      have hm := mem_listed he
      simp [go_sem, *] at hm
    clear hK K
    try w_num
    refine Goes.step rfl (fun _ h₁ => ?_)
    replace hF := (f0_rely hFr) hF h₁
    clear h₁
    refine goes_oper_k rfl rfl (by k_ne) (fun K hK => ?_)
    go_simp
    refine hK _ _ ⟨?_, ?_⟩
    · first | refine dc0_none ?_ | refine ds_none ?_ | refine d0_nil ?_ | refine dm_nil ?_
      intro e he
      have hm := mem_listed he
      simp [go_sem, *] at hm
    clear hK K
    try w_num
    refine Goes.step rfl (fun _ h₁ => ?_)
    replace hF := (f0_rely hFr) hF h₁
    clear h₁
    refine goes_oper_k rfl rfl (by k_ne) (fun K hK => ?_)
    go_simp
    refine hK _ _ ⟨?_, ?_⟩
    · first | refine dc0_none ?_ | refine ds_none ?_ | refine d0_nil ?_ | refine dm_nil ?_
      intro e he
      have hm := mem_listed he
      simp [go_sem, *] at hm
    clear hK K
    try w_num
    refine Goes.step rfl (fun _ h₁ => ?_)
    replace hF := (f0_rely hFr) hF h₁
    clear h₁
    rw [stepG_unwanted rfl rfl]
    simp only [goes_go]
    refine ⟨(by first | exact dc0_none (fun e he => by simp at he) | exact ds_none (fun e he => by simp at he) | exact d0_nil (fun e he => by simp at he) | exact dm_nil (fun e he => by simp at he)), ?_⟩
    walk_nrm
    refine Goes.step rfl (fun _ h₁ => ?_)
    replace hF := (f0_rely hFr) hF h₁
    clear h₁
    rw [stepG_unwanted rfl rfl]
    simp only [goes_go]
    refine ⟨(by first | exact dc0_none (fun e he => by simp at he) | exact ds_none (fun e he => by simp at he) | exact d0_nil (fun e he => by simp at he) | exact dm_nil (fun e he => by simp at he)), ?_⟩
    walk_nrm
    refine Goes.step rfl (fun _ h₁ => ?_)
    replace hF := (f0_rely hFr) hF h₁
    clear h₁
    refine goes_oper_k rfl rfl (by k_ne) (fun K hK => ?_)
    go_simp
    refine hK _ _ ⟨?_, ?_⟩
    · first | refine dc0_none ?_ | refine ds_none ?_ | refine d0_nil ?_ | refine dm_nil ?_
      intro e he
      have hm := mem_listed he
      simp [go_sem, *] at hm
    clear hK K
    try w_num
    refine Goes.step rfl (fun _ h₁ => ?_)
    replace hF := (f0_rely hFr) hF h₁
    clear h₁
    rw [stepG_region_end]
    simp only [goes_go]
    refine ⟨(by first | exact dc0_none (fun e he => by simp at he) | exact ds_none (fun e he => by simp at he) | exact d0_nil (fun e he => by simp at he) | exact dm_nil (fun e he => by simp at he)), ?_⟩
    refine Goes.step rfl (fun _ h₁ => ?_)
    replace hF := (f0_rely hFr) hF h₁
    clear h₁
    rw [stepG_cond (t := false) rfl]
    simp only [goes_go, if_true, if_false, Bool.false_eq_true, ↓reduceIte]
    refine ⟨(by first | exact dc0_none (fun e he => by simp at he) | exact ds_none (fun e he => by simp at he) | exact d0_nil (fun e he => by simp at he) | exact dm_nil (fun e he => by simp at he)), ?_⟩
    refine Goes.step rfl (fun _ h₁ => ?_)
    replace hF := (f0_rely hFr) hF h₁
    clear h₁
    rw [stepG_skip]
    simp only [goes_go]
    refine ⟨(by first | exact dc0_none (fun e he => by simp at he) | exact ds_none (fun e he => by simp at he) | exact d0_nil (fun e he => by simp at he) | exact dm_nil (fun e he => by simp at he)), ?_⟩
    refine Goes.step rfl (fun _ h₁ => ?_)
    replace hF := (f0_rely hFr) hF h₁
    clear h₁
    rw [stepG_seq]
    simp only [goes_go]
    refine ⟨(by first | exact dc0_none (fun e he => by simp at he) | exact ds_none (fun e he => by simp at he) | exact d0_nil (fun e he => by simp at he) | exact dm_nil (fun e he => by simp at he)), ?_⟩
    refine Goes.step rfl (fun _ h₁ => ?_)
    replace hF := (f0_rely hFr) hF h₁
    clear h₁
    rw [stepG_region]
    simp only [goes_go, List.size_toArray, List.length_cons, List.length_nil, Nat.reduceAdd, Nat.zero_add, List.range, List.range.loop]
    refine ⟨(by first | exact dc0_none (fun e he => by simp at he) | exact ds_none (fun e he => by simp at he) | exact d0_nil (fun e he => by simp at he) | exact dm_nil (fun e he => by simp at he)), ?_⟩
    refine Goes.step rfl (fun _ h₁ => ?_)
    replace hF := (f0_rely hFr) hF h₁
    clear h₁
    refine goes_oper_k rfl rfl (by k_ne) (fun K hK => ?_)
    go_simp
    refine hK _ _ ⟨?_, ?_⟩
    · first | refine dc0_none ?_ | refine ds_none ?_ | refine d0_nil ?_ | refine dm_nil ?_
      intro e he
      have hm := mem_listed he
      simp [go_sem, *] at hm
    clear hK K
    try w_num
    refine Goes.step rfl (fun _ h₁ => ?_)
    replace hF := (f0_rely hFr) hF h₁
    clear h₁
    refine goes_oper_k rfl rfl (by k_ne) (fun K hK => ?_)
    go_simp
    refine hK _ _ ⟨?_, ?_⟩
    · first | refine dc0_none ?_ | refine ds_none ?_ | refine d0_nil ?_ | refine dm_nil ?_
      intro e he
      have hm := mem_listed he
      simp [go_sem, *] at hm
    clear hK K
    try w_num
    refine Goes.step rfl (fun _ h₁ => ?_)
    replace hF := (f0_rely hFr) hF h₁
    clear h₁
    refine goes_oper_k rfl rfl (by k_ne) (fun K hK => ?_)
    go_simp
    refine hK _ _ ⟨?_, ?_⟩
    · first | refine dc0_none ?_ | refine ds_none ?_ | refine d0_nil ?_ | refine dm_nil ?_
      intro e he
      have hm := mem_listed he
      simp [go_sem, *] at hm
    clear hK K
    try w_num
    refine Goes.step rfl (fun _ h₁ => ?_)
    replace hF := (f0_rely hFr) hF h₁
    clear h₁
    refine goes_oper_k rfl rfl (by k_ne) (fun K hK => ?_)
    go_simp
    refine hK _ _ ⟨?_, ?_⟩
    · first | refine dc0_none ?_ | refine ds_none ?_ | refine d0_nil ?_ | refine dm_nil ?_
      intro e he
      have hm := mem_listed he
      simp [go_sem, *] at hm
    clear hK K
    try w_num
    refine Goes.step rfl (fun _ h₁ => ?_)
    replace hF := (f0_rely hFr) hF h₁
    clear h₁
    rw [stepG_region_end]
    simp only [goes_go]
    refine ⟨(by first | exact dc0_none (fun e he => by simp at he) | exact ds_none (fun e he => by simp at he) | exact d0_nil (fun e he => by simp at he) | exact dm_nil (fun e he => by simp at he)), ?_⟩
    refine Goes.step rfl (fun _ h₁ => ?_)
    replace hF := (f0_rely hFr) hF h₁
    clear h₁
    rw [stepG_seq]
    simp only [goes_go]
    refine ⟨(by first | exact dc0_none (fun e he => by simp at he) | exact ds_none (fun e he => by simp at he) | exact d0_nil (fun e he => by simp at he) | exact dm_nil (fun e he => by simp at he)), ?_⟩
    refine Goes.step rfl (fun _ h₁ => ?_)
    replace hF := (f0_rely hFr) hF h₁
    clear h₁
    rw [stepG_region]
    simp only [goes_go, List.size_toArray, List.length_cons, List.length_nil, Nat.reduceAdd, Nat.zero_add, List.range, List.range.loop]
    refine ⟨(by first | exact dc0_none (fun e he => by simp at he) | exact ds_none (fun e he => by simp at he) | exact d0_nil (fun e he => by simp at he) | exact dm_nil (fun e he => by simp at he)), ?_⟩
    refine Goes.step rfl (fun _ h₁ => ?_)
    replace hF := (f0_rely hFr) hF h₁
    clear h₁
    refine goes_oper_k rfl rfl (by k_ne) (fun K hK => ?_)
    go_simp
    refine hK _ _ ⟨?_, ?_⟩
    · first | refine dc0_none ?_ | refine ds_none ?_ | refine d0_nil ?_ | refine dm_nil ?_
      intro e he
      have hm := mem_listed he
      simp [go_sem, *] at hm
    clear hK K
    try w_num
    refine Goes.step rfl (fun _ h₁ => ?_)
    replace hF := (f0_rely hFr) hF h₁
    clear h₁
    refine goes_oper_k rfl rfl (by k_ne) (fun K hK => ?_)
    go_simp
    refine hK _ _ ⟨?_, ?_⟩
    · first | refine dc0_none ?_ | refine ds_none ?_ | refine d0_nil ?_ | refine dm_nil ?_
      intro e he
      have hm := mem_listed he
      simp [go_sem, *] at hm
    clear hK K
    try w_num
    refine Goes.step rfl (fun _ h₁ => ?_)
    replace hF := (f0_rely hFr) hF h₁
    clear h₁
    refine goes_oper_k rfl rfl (by k_ne) (fun K hK => ?_)
    go_simp
    refine hK _ _ ⟨?_, ?_⟩
    · first | refine dc0_none ?_ | refine ds_none ?_ | refine d0_nil ?_ | refine dm_nil ?_
      intro e he
      have hm := mem_listed he
      simp [go_sem, *] at hm
    clear hK K
    try w_num
    refine Goes.step rfl (fun _ h₁ => ?_)
    replace hF := (f0_rely hFr) hF h₁
    clear h₁
    refine goes_oper_k rfl rfl (by k_ne) (fun K hK => ?_)
    go_simp
    refine hK _ _ ⟨?_, ?_⟩
    · first | refine dc0_none ?_ | refine ds_none ?_ | refine d0_nil ?_ | refine dm_nil ?_
      intro e he
      have hm := mem_listed he
      simp [go_sem, *] at hm
    clear hK K
    try w_num
    refine Goes.step rfl (fun _ h₁ => ?_)
    replace hF := (f0_rely hFr) hF h₁
    clear h₁
    rw [stepG_region_end]
    simp only [goes_go]
    refine ⟨(by first | exact dc0_none (fun e he => by simp at he) | exact ds_none (fun e he => by simp at he) | exact d0_nil (fun e he => by simp at he) | exact dm_nil (fun e he => by simp at he)), ?_⟩
    refine Goes.step rfl (fun _ h₁ => ?_)
    replace hF := (f0_rely hFr) hF h₁
    clear h₁
    rw [stepG_seq]
    simp only [goes_go]
    refine ⟨(by first | exact dc0_none (fun e he => by simp at he) | exact ds_none (fun e he => by simp at he) | exact d0_nil (fun e he => by simp at he) | exact dm_nil (fun e he => by simp at he)), ?_⟩
    refine Goes.step rfl (fun _ h₁ => ?_)
    replace hF := (f0_rely hFr) hF h₁
    clear h₁
    rw [stepG_seq]
    simp only [goes_go]
    refine ⟨(by first | exact dc0_none (fun e he => by simp at he) | exact ds_none (fun e he => by simp at he) | exact d0_nil (fun e he => by simp at he) | exact dm_nil (fun e he => by simp at he)), ?_⟩
    refine Goes.step rfl (fun _ h₁ => ?_)
    replace hF := (f0_rely hFr) hF h₁
    clear h₁
    rw [stepG_region]
    simp only [goes_go, List.size_toArray, List.length_cons, List.length_nil, Nat.reduceAdd, Nat.zero_add, List.range, List.range.loop]
    refine ⟨(by first | exact dc0_none (fun e he => by simp at he) | exact ds_none (fun e he => by simp at he) | exact d0_nil (fun e he => by simp at he) | exact dm_nil (fun e he => by simp at he)), ?_⟩
    refine Goes.step rfl (fun _ h₁ => ?_)
    replace hF := (f0_rely hFr) hF h₁
    clear h₁
    refine goes_oper_k rfl rfl (by k_ne) (fun K hK => ?_)
    go_simp
    refine hK _ _ ⟨?_, ?_⟩
    · first | refine dc0_none ?_ | refine ds_none ?_ | refine d0_nil ?_ | refine dm_nil ?_
      intro e he
      have hm := mem_listed he
      simp [go_sem, *] at hm
    clear hK K
    try w_num
    refine Goes.step rfl (fun _ h₁ => ?_)
    replace hF := (f0_rely hFr) hF h₁
    clear h₁
    refine goes_oper_k rfl rfl (by k_ne) (fun K hK => ?_)
    go_simp
    refine hK _ _ ⟨?_, ?_⟩
    · first | refine dc0_none ?_ | refine ds_none ?_ | refine d0_nil ?_ | refine dm_nil ?_
      intro e he
      have hm := mem_listed he
      simp [go_sem, *] at hm
    clear hK K
    try w_num
    refine Goes.step rfl (fun _ h₁ => ?_)
    replace hF := (f0_rely hFr) hF h₁
    clear h₁
    refine goes_oper_k rfl rfl (by k_ne) (fun K hK => ?_)
    go_simp
    refine hK _ _ ⟨?_, ?_⟩
    · first | refine dc0_none ?_ | refine ds_none ?_ | refine d0_nil ?_ | refine dm_nil ?_
      intro e he
      have hm := mem_listed he
      simp [go_sem, *] at hm
    clear hK K
    try w_num
    refine Goes.step rfl (fun _ h₁ => ?_)
    replace hF := (f0_rely hFr) hF h₁
    clear h₁
    refine goes_oper_k rfl rfl (by k_ne) (fun K hK => ?_)
    go_simp
    refine hK _ _ ⟨?_, ?_⟩
    · first | refine dc0_none ?_ | refine ds_none ?_ | refine d0_nil ?_ | refine dm_nil ?_
      intro e he
      have hm := mem_listed he
      simp [go_sem, *] at hm
    clear hK K
    try w_num
    refine Goes.step rfl (fun _ h₁ => ?_)
    replace hF := (f0_rely hFr) hF h₁
    clear h₁
    refine goes_oper_k rfl rfl (by k_ne) (fun K hK => ?_)
    go_simp
    refine hK _ _ ⟨?_, ?_⟩
    · first | refine dc0_none ?_ | refine ds_none ?_ | refine d0_nil ?_ | refine dm_nil ?_
      intro e he
      have hm := mem_listed he
      simp [go_sem, *] at hm
    clear hK K
    try w_num
    refine Goes.step rfl (fun _ h₁ => ?_)
    replace hF := (f0_rely hFr) hF h₁
    clear h₁
    refine goes_oper_k rfl rfl (by k_ne) (fun K hK => ?_)
    go_simp
    refine hK _ _ ⟨?_, ?_⟩
    · first | refine dc0_none ?_ | refine ds_none ?_ | refine d0_nil ?_ | refine dm_nil ?_
      intro e he
      have hm := mem_listed he
      simp [go_sem, *] at hm
    clear hK K
    try w_num
    refine Goes.step rfl (fun _ h₁ => ?_)
    replace hF := (f0_rely hFr) hF h₁
    clear h₁
    refine goes_oper_k rfl rfl (by k_ne) (fun K hK => ?_)
    go_simp
    refine hK _ _ ⟨?_, ?_⟩
    · first | refine dc0_none ?_ | refine ds_none ?_ | refine d0_nil ?_ | refine dm_nil ?_
      intro e he
      have hm := mem_listed he
      simp [go_sem, *] at hm
    clear hK K
    try w_num
    refine Goes.step rfl (fun _ h₁ => ?_)
    replace hF := (f0_rely hFr) hF h₁
    clear h₁
    refine goes_oper_k rfl rfl (by k_ne) (fun K hK => ?_)
    go_simp
    refine hK _ _ ⟨?_, ?_⟩
    · first | refine dc0_none ?_ | refine ds_none ?_ | refine d0_nil ?_ | refine dm_nil ?_
      intro e he
      have hm := mem_listed he
      simp [go_sem, *] at hm
    clear hK K
    try w_num
    refine Goes.step rfl (fun _ h₁ => ?_)
    replace hF := (f0_rely hFr) hF h₁
    clear h₁
    refine goes_oper_k rfl rfl (by k_ne) (fun K hK => ?_)
    go_simp
    refine hK _ _ ⟨?_, ?_⟩
    · first | refine dc0_none ?_ | refine ds_none ?_ | refine d0_nil ?_ | refine dm_nil ?_
      intro e he
      have hm := mem_listed he
      simp [go_sem, *] at hm
    clear hK K
    try w_num
    refine Goes.step rfl (fun _ h₁ => ?_)
    replace hF := (f0_rely hFr) hF h₁
    clear h₁
    refine goes_oper_k rfl rfl (by k_ne) (fun K hK => ?_)
    go_simp
    refine hK _ _ ⟨?_, ?_⟩
    · first | refine dc0_none ?_ | refine ds_none ?_ | refine d0_nil ?_ | refine dm_nil ?_
      intro e he
      have hm := mem_listed he
      simp [go_sem, *] at hm
    clear hK K
    try w_num
    refine Goes.step rfl (fun _ h₁ => ?_)
    replace hF := (f0_rely hFr) hF h₁
    clear h₁
    rw [stepG_region_end]
    simp only [goes_go]
    refine ⟨(by first | exact dc0_none (fun e he => by simp at he) | exact ds_none (fun e he => by simp at he) | exact d0_nil (fun e he => by simp at he) | exact dm_nil (fun e he => by simp at he)), ?_⟩
    refine Goes.step rfl (fun _ h₁ => ?_)
    replace hF := (f0_rely hFr) hF h₁
    clear h₁
    rw [stepG_cond (t := true) rfl]
    simp only [goes_go, if_true, if_false, Bool.false_eq_true, ↓reduceIte]
    refine ⟨(by first | exact dc0_none (fun e he => by simp at he) | exact ds_none (fun e he => by simp at he) | exact d0_nil (fun e he => by simp at he) | exact dm_nil (fun e he => by simp at he)), ?_⟩
    refine Goes.step rfl (fun _ h₁ => ?_)
    replace hF := (f0_rely hFr) hF h₁
    clear h₁
    rw [stepG_region]
    simp only [goes_go, List.size_toArray, List.length_cons, List.length_nil, Nat.reduceAdd, Nat.zero_add, List.range, List.range.loop]
    refine ⟨(by first | exact dc0_none (fun e he => by simp at he) | exact ds_none (fun e he => by simp at he) | exact d0_nil (fun e he => by simp at he) | exact dm_nil (fun e he => by simp at he)), ?_⟩
    refine Goes.step rfl (fun _ h₁ => ?_)
    replace hF := (f0_rely hFr) hF h₁
    clear h₁
    refine goes_oper_k rfl rfl (by k_ne) (fun K hK => ?_)
    go_simp
    refine hK _ _ ⟨?_, ?_⟩
    · first | refine dc0_none ?_ | refine ds_none ?_ | refine d0_nil ?_ | refine dm_nil ?_
      intro e he
      have hm := mem_listed he
      simp [go_sem, *] at hm
    clear hK K
    try w_num
    refine Goes.step rfl (fun _ h₁ => ?_)
    replace hF := (f0_rely hFr) hF h₁
    clear h₁
    refine goes_oper_k rfl rfl (by k_ne) (fun K hK => ?_)
    go_simp
    refine hK _ _ ⟨?_, ?_⟩
    · first | refine dc0_none ?_ | refine ds_none ?_ | refine d0_nil ?_ | refine dm_nil ?_
      intro e he
      have hm := mem_listed he
      simp [go_sem, *] at hm
    clear hK K
    try w_num
    refine Goes.step rfl (fun _ h₁ => ?_)
    replace hF := (f0_rely hFr) hF h₁
    clear h₁
    refine goes_oper_k rfl rfl (by k_ne) (fun K hK => ?_)
    go_simp
    refine hK _ _ ⟨?_, ?_⟩
    · first | refine dc0_none ?_ | refine ds_none ?_ | refine d0_nil ?_ | refine dm_nil ?_
      intro e he
      have hm := mem_listed he
      simp [go_sem, *] at hm
    clear hK K
    try w_num
    refine Goes.step rfl (fun _ h₁ => ?_)
    replace hF := (f0_rely hFr) hF h₁
    clear h₁
    refine goes_oper_k rfl rfl (by k_ne) (fun Kx hKx => ?_)
    have hcv := run_convert_to_unsafe (P := P) H.underlying_tPU32 H.underlying_tUP H.room_tU32 (WgLive.cell1 hF.2).choose_spec
    have hce := fun es => events_convert_to_unsafe (P := P) H.underlying_tPU32 H.underlying_tUP H.room_tU32 (WgLive.cell1 hF.2).choose_spec es
    go_simp
    refine hKx _ _ ⟨?_, ?_⟩
    · first | refine dc0_none ?_ | refine ds_none ?_ | refine d0_nil ?_ | refine dm_nil ?_
      intro ex hex
      have hmx := mem_listed hex
      simp [go_sem, hce] at hmx
    clear hKx Kx hcv hce
    refine Goes.step rfl (fun _ h₁ => ?_)
    replace hF := (f0_rely hFr) hF h₁
    clear h₁
    rw [stepG_markAt .read (by simp) rfl rfl (by k_ne) rfl H.f_raceRead (x_raceRead_n L) (x_raceRead_b L) (x_raceRead_x L) (x_raceRead_f L) (ad := ⟨E.Wg, 1, none⟩) (by simp [Act.eval])]
    simp only [goes_go]
    refine ⟨⟨rfl, fun ex hex => ?_⟩, ?_⟩
    · rw [Array.mem_singleton] at hex
      subst hex
      exact ⟨⟨E.Wg, 1, none⟩, rfl, rfl⟩
    walk_nrm
    refine Goes.step rfl (fun _ h₁ => ?_)
    replace hF := (f0_rely hFr) hF h₁
    clear h₁
    rw [stepG_region_end]
    simp only [goes_go]
    refine ⟨(by first | exact dc0_none (fun e he => by simp at he) | exact ds_none (fun e he => by simp at he) | exact d0_nil (fun e he => by simp at he) | exact dm_nil (fun e he => by simp at he)), ?_⟩
    refine Goes.step rfl (fun _ h₁ => ?_)
    replace hF := (f0_rely hFr) hF h₁
    clear h₁
    rw [stepG_seq]
    simp only [goes_go]
    refine ⟨(by first | exact dc0_none (fun e he => by simp at he) | exact ds_none (fun e he => by simp at he) | exact d0_nil (fun e he => by simp at he) | exact dm_nil (fun e he => by simp at he)), ?_⟩
    refine Goes.step rfl (fun _ h₁ => ?_)
    replace hF := (f0_rely hFr) hF h₁
    clear h₁
    rw [stepG_seq]
    simp only [goes_go]
    refine ⟨(by first | exact dc0_none (fun e he => by simp at he) | exact ds_none (fun e he => by simp at he) | exact d0_nil (fun e he => by simp at he) | exact dm_nil (fun e he => by simp at he)), ?_⟩
    refine Goes.step rfl (fun _ h₁ => ?_)
    replace hF := (f0_rely hFr) hF h₁
    clear h₁
    rw [stepG_region]
    simp only [goes_go, List.size_toArray, List.length_cons, List.length_nil, Nat.reduceAdd, Nat.zero_add, List.range, List.range.loop]
    refine ⟨(by first | exact dc0_none (fun e he => by simp at he) | exact ds_none (fun e he => by simp at he) | exact d0_nil (fun e he => by simp at he) | exact dm_nil (fun e he => by simp at he)), ?_⟩
    refine Goes.step rfl (fun _ h₁ => ?_)
    replace hF := (f0_rely hFr) hF h₁
    clear h₁
    refine goes_oper_k rfl rfl (by k_ne) (fun K hK => ?_)
    go_simp
    refine hK _ _ ⟨?_, ?_⟩
    · first | refine dc0_none ?_ | refine ds_none ?_ | refine d0_nil ?_ | refine dm_nil ?_
      intro e he
      have hm := mem_listed he
      simp [go_sem, *] at hm
    clear hK K
    try w_num
    refine Goes.step rfl (fun _ h₁ => ?_)
    replace hF := (f0_rely hFr) hF h₁
    clear h₁
    refine goes_oper_k rfl rfl (by k_ne) (fun K hK => ?_)
    go_simp
    refine hK _ _ ⟨?_, ?_⟩
    · first | refine dc0_none ?_ | refine ds_none ?_ | refine d0_nil ?_ | refine dm_nil ?_
      intro e he
      have hm := mem_listed he
      simp [go_sem, *] at hm
    clear hK K
    try w_num
    refine Goes.step rfl (fun _ h₁ => ?_)
    replace hF := (f0_rely hFr) hF h₁
    clear h₁
    rw [stepG_region_end]
    simp only [goes_go]
    refine ⟨(by first | exact dc0_none (fun e he => by simp at he) | exact ds_none (fun e he => by simp at he) | exact d0_nil (fun e he => by simp at he) | exact dm_nil (fun e he => by simp at he)), ?_⟩
    refine Goes.step rfl (fun _ h₁ => ?_)
    replace hF := (f0_rely hFr) hF h₁
    clear h₁
    rw [stepG_cond (t := false) rfl]
    simp only [goes_go, if_true, if_false, Bool.false_eq_true, ↓reduceIte]
    refine ⟨(by first | exact dc0_none (fun e he => by simp at he) | exact ds_none (fun e he => by simp at he) | exact d0_nil (fun e he => by simp at he) | exact dm_nil (fun e he => by simp at he)), ?_⟩
    refine Goes.step rfl (fun _ h₁ => ?_)
    replace hF := (f0_rely hFr) hF h₁
    clear h₁
    rw [stepG_skip]
    simp only [goes_go]
    refine ⟨(by first | exact dc0_none (fun e he => by simp at he) | exact ds_none (fun e he => by simp at he) | exact d0_nil (fun e he => by simp at he) | exact dm_nil (fun e he => by simp at he)), ?_⟩
    refine Goes.step rfl (fun _ h₁ => ?_)
    replace hF := (f0_rely hFr) hF h₁
    clear h₁
    rw [stepG_seq]
    simp only [goes_go]
    refine ⟨(by first | exact dc0_none (fun e he => by simp at he) | exact ds_none (fun e he => by simp at he) | exact d0_nil (fun e he => by simp at he) | exact dm_nil (fun e he => by simp at he)), ?_⟩
    refine Goes.step rfl (fun _ h₁ => ?_)
    replace hF := (f0_rely hFr) hF h₁
    clear h₁
    rw [stepG_seq]
    simp only [goes_go]
    refine ⟨(by first | exact dc0_none (fun e he => by simp at he) | exact ds_none (fun e he => by simp at he) | exact d0_nil (fun e he => by simp at he) | exact dm_nil (fun e he => by simp at he)), ?_⟩
    refine Goes.step rfl (fun _ h₁ => ?_)
    replace hF := (f0_rely hFr) hF h₁
    clear h₁
    rw [stepG_region]
    simp only [goes_go, List.size_toArray, List.length_cons, List.length_nil, Nat.reduceAdd, Nat.zero_add, List.range, List.range.loop]
    refine ⟨(by first | exact dc0_none (fun e he => by simp at he) | exact ds_none (fun e he => by simp at he) | exact d0_nil (fun e he => by simp at he) | exact dm_nil (fun e he => by simp at he)), ?_⟩
    refine Goes.step rfl (fun _ h₁ => ?_)
    replace hF := (f0_rely hFr) hF h₁
    clear h₁
    refine goes_oper_k rfl rfl (by k_ne) (fun K hK => ?_)
    go_simp
    refine hK _ _ ⟨?_, ?_⟩
    · first | refine dc0_none ?_ | refine ds_none ?_ | refine d0_nil ?_ | refine dm_nil ?_
      intro e he
      have hm := mem_listed he
      simp [go_sem, *] at hm
    clear hK K
    try w_num
    refine Goes.step rfl (fun _ h₁ => ?_)
    replace hF := (f0_rely hFr) hF h₁
    clear h₁
    refine goes_oper_k rfl rfl (by k_ne) (fun K hK => ?_)
    go_simp
    refine hK _ _ ⟨?_, ?_⟩
    · first | refine dc0_none ?_ | refine ds_none ?_ | refine d0_nil ?_ | refine dm_nil ?_
      intro e he
      have hm := mem_listed he
      simp [go_sem, *] at hm
    clear hK K
    try w_num
    refine Goes.step rfl (fun _ h₁ => ?_)
    replace hF := (f0_rely hFr) hF h₁
    clear h₁
    refine goes_oper_k rfl rfl (by k_ne) (fun K hK => ?_)
    go_simp
    refine hK _ _ ⟨?_, ?_⟩
    · first | refine dc0_none ?_ | refine ds_none ?_ | refine d0_nil ?_ | refine dm_nil ?_
      intro e he
      have hm := mem_listed he
      simp [go_sem, *] at hm
    clear hK K
    try w_num
    refine Goes.step rfl (fun _ h₁ => ?_)
    replace hF := (f0_rely hFr) hF h₁
    clear h₁
    rw [stepG_unwanted rfl rfl]
    simp only [goes_go]
    refine ⟨(by first | exact dc0_none (fun e he => by simp at he) | exact ds_none (fun e he => by simp at he) | exact d0_nil (fun e he => by simp at he) | exact dm_nil (fun e he => by simp at he)), ?_⟩
    walk_nrm
    refine Goes.step rfl (fun _ h₁ => ?_)
    replace hF := (f0_rely hFr) hF h₁
    clear h₁
    rw [stepG_unwanted rfl rfl]
    simp only [goes_go]
    refine ⟨(by first | exact dc0_none (fun e he => by simp at he) | exact ds_none (fun e he => by simp at he) | exact d0_nil (fun e he => by simp at he) | exact dm_nil (fun e he => by simp at he)), ?_⟩
    walk_nrm
    refine Goes.step rfl (fun _ h₁ => ?_)
    replace hF := (f0_rely hFr) hF h₁
    clear h₁
    refine goes_oper_k rfl rfl (by k_ne) (fun K hK => ?_)
    go_simp
    refine hK _ _ ⟨?_, ?_⟩
    · first | refine dc0_none ?_ | refine ds_none ?_ | refine d0_nil ?_ | refine dm_nil ?_
      intro e he
      have hm := mem_listed he
      simp [go_sem, *] at hm
    clear hK K
    try w_num
    refine Goes.step rfl (fun _ h₁ => ?_)
    replace hF := (f0_rely hFr) hF h₁
    clear h₁
    refine goes_oper_k rfl rfl (by k_ne) (fun K hK => ?_)
    go_simp
    refine hK _ _ ⟨?_, ?_⟩
    · first | refine dc0_none ?_ | refine ds_none ?_ | refine d0_nil ?_ | refine dm_nil ?_
      intro e he
      have hm := mem_listed he
      simp [go_sem, *] at hm
    clear hK K
    try w_num
    refine Goes.step rfl (fun _ h₁ => ?_)
    replace hF := (f0_rely hFr) hF h₁
    clear h₁
    rw [stepG_unwanted rfl rfl]
    simp only [goes_go]
    refine ⟨(by first | exact dc0_none (fun e he => by simp at he) | exact ds_none (fun e he => by simp at he) | exact d0_nil (fun e he => by simp at he) | exact dm_nil (fun e he => by simp at he)), ?_⟩
    walk_nrm
    refine Goes.step rfl (fun _ h₁ => ?_)
    replace hF := (f0_rely hFr) hF h₁
    clear h₁
    rw [stepG_unwanted rfl rfl]
    simp only [goes_go]
    refine ⟨(by first | exact dc0_none (fun e he => by simp at he) | exact ds_none (fun e he => by simp at he) | exact d0_nil (fun e he => by simp at he) | exact dm_nil (fun e he => by simp at he)), ?_⟩
    walk_nrm
    refine Goes.step rfl (fun _ h₁ => ?_)
    replace hF := (f0_rely hFr) hF h₁
    clear h₁
    rw [stepG_unwanted rfl rfl]
    simp only [goes_go]
    refine ⟨(by first | exact dc0_none (fun e he => by simp at he) | exact ds_none (fun e he => by simp at he) | exact d0_nil (fun e he => by simp at he) | exact dm_nil (fun e he => by simp at he)), ?_⟩
    walk_nrm
    refine Goes.step rfl (fun _ h₁ => ?_)
    replace hF := (f0_rely hFr) hF h₁
    clear h₁
    rw [stepG_unwanted rfl rfl]
    simp only [goes_go]
    refine ⟨(by first | exact dc0_none (fun e he => by simp at he) | exact ds_none (fun e he => by simp at he) | exact d0_nil (fun e he => by simp at he) | exact dm_nil (fun e he => by simp at he)), ?_⟩
    walk_nrm
    refine Goes.step rfl (fun _ h₁ => ?_)
    replace hF := (f0_rely hFr) hF h₁
    clear h₁
    refine goes_oper_k rfl rfl (by k_ne) (fun K hK => ?_)
    go_simp
    refine hK _ _ ⟨?_, ?_⟩
    · first | refine dc0_none ?_ | refine ds_none ?_ | refine d0_nil ?_ | refine dm_nil ?_
      intro e he
      have hm := mem_listed he
      simp [go_sem, *] at hm
    clear hK K
    try w_num
    refine Goes.step rfl (fun _ h₁ => ?_)
    replace hF := (f0_rely hFr) hF h₁
    clear h₁
    rw [stepG_region_end]
    simp only [goes_go]
    refine ⟨(by first | exact dc0_none (fun e he => by simp at he) | exact ds_none (fun e he => by simp at he) | exact d0_nil (fun e he => by simp at he) | exact dm_nil (fun e he => by simp at he)), ?_⟩
    refine Goes.step rfl (fun _ h₁ => ?_)
    replace hF := (f0_rely hFr) hF h₁
    clear h₁
    rw [stepG_cond (t := false) rfl]
    simp only [goes_go, if_true, if_false, Bool.false_eq_true, ↓reduceIte]
    refine ⟨(by first | exact dc0_none (fun e he => by simp at he) | exact ds_none (fun e he => by simp at he) | exact d0_nil (fun e he => by simp at he) | exact dm_nil (fun e he => by simp at he)), ?_⟩
    refine Goes.step rfl (fun _ h₁ => ?_)
    replace hF := (f0_rely hFr) hF h₁
    clear h₁
    rw [stepG_skip]
    simp only [goes_go]
    refine ⟨(by first | exact dc0_none (fun e he => by simp at he) | exact ds_none (fun e he => by simp at he) | exact d0_nil (fun e he => by simp at he) | exact dm_nil (fun e he => by simp at he)), ?_⟩
    refine Goes.step rfl (fun _ h₁ => ?_)
    replace hF := (f0_rely hFr) hF h₁
    clear h₁
    rw [stepG_seq]
    simp only [goes_go]
    refine ⟨(by first | exact dc0_none (fun e he => by simp at he) | exact ds_none (fun e he => by simp at he) | exact d0_nil (fun e he => by simp at he) | exact dm_nil (fun e he => by simp at he)), ?_⟩
    refine Goes.step rfl (fun _ h₁ => ?_)
    replace hF := (f0_rely hFr) hF h₁
    clear h₁
    rw [stepG_seq]
    simp only [goes_go]
    refine ⟨(by first | exact dc0_none (fun e he => by simp at he) | exact ds_none (fun e he => by simp at he) | exact d0_nil (fun e he => by simp at he) | exact dm_nil (fun e he => by simp at he)), ?_⟩
    refine Goes.step rfl (fun _ h₁ => ?_)
    replace hF := (f0_rely hFr) hF h₁
    clear h₁
    rw [stepG_region]
    simp only [goes_go, List.size_toArray, List.length_cons, List.length_nil, Nat.reduceAdd, Nat.zero_add, List.range, List.range.loop]
    refine ⟨(by first | exact dc0_none (fun e he => by simp at he) | exact ds_none (fun e he => by simp at he) | exact d0_nil (fun e he => by simp at he) | exact dm_nil (fun e he => by simp at he)), ?_⟩
    refine Goes.step rfl (fun _ h₁ => ?_)
    replace hF := (f0_rely hFr) hF h₁
    clear h₁
    refine goes_oper_k rfl rfl (by k_ne) (fun K hK => ?_)
    go_simp
    refine hK _ _ ⟨?_, ?_⟩
    · first | refine dc0_none ?_ | refine ds_none ?_ | refine d0_nil ?_ | refine dm_nil ?_
      intro e he
      have hm := mem_listed he
      simp [go_sem, *] at hm
    clear hK K
    try w_num
    refine Goes.step rfl (fun _ h₁ => ?_)
    replace hF := (f0_rely hFr) hF h₁
    clear h₁
    refine goes_oper_k rfl rfl (by k_ne) (fun K hK => ?_)
    go_simp
    refine hK _ _ ⟨?_, ?_⟩
    · first | refine dc0_none ?_ | refine ds_none ?_ | refine d0_nil ?_ | refine dm_nil ?_
      intro e he
      have hm := mem_listed he
      simp [go_sem, *] at hm
    clear hK K
    try w_num
    refine Goes.step rfl (fun _ h₁ => ?_)
    replace hF := (f0_rely hFr) hF h₁
    clear h₁
    refine goes_oper_k rfl rfl (by k_ne) (fun K hK => ?_)
    go_simp
    refine hK _ _ ⟨?_, ?_⟩
    · first | refine dc0_none ?_ | refine ds_none ?_ | refine d0_nil ?_ | refine dm_nil ?_
      intro e he
      have hm := mem_listed he
      simp [go_sem, *] at hm
    clear hK K
    try w_num
    refine Goes.step rfl (fun _ h₁ => ?_)
    replace hF := (f0_rely hFr) hF h₁
    clear h₁
    rw [stepG_unwanted rfl rfl]
    simp only [goes_go]
    refine ⟨(by first | exact dc0_none (fun e he => by simp at he) | exact ds_none (fun e he => by simp at he) | exact d0_nil (fun e he => by simp at he) | exact dm_nil (fun e he => by simp at he)), ?_⟩
    walk_nrm
    refine Goes.step rfl (fun _ h₁ => ?_)
    replace hF := (f0_rely hFr) hF h₁
    clear h₁
    rw [stepG_unwanted rfl rfl]
    simp only [goes_go]
    refine ⟨(by first | exact dc0_none (fun e he => by simp at he) | exact ds_none (fun e he => by simp at he) | exact d0_nil (fun e he => by simp at he) | exact dm_nil (fun e he => by simp at he)), ?_⟩
    walk_nrm
    refine Goes.step rfl (fun _ h₁ => ?_)
    replace hF := (f0_rely hFr) hF h₁
    clear h₁
    refine goes_oper_k rfl rfl (by k_ne) (fun K hK => ?_)
    go_simp
    refine hK _ _ ⟨?_, ?_⟩
    · first | refine dc0_none ?_ | refine ds_none ?_ | refine d0_nil ?_ | refine dm_nil ?_
      intro e he
      have hm := mem_listed he
      simp [go_sem, *] at hm
    clear hK K
    try w_num
    refine Goes.step rfl (fun _ h₁ => ?_)
    replace hF := (f0_rely hFr) hF h₁
    clear h₁
    rw [stepG_region_end]
    simp only [goes_go]
    refine ⟨(by first | exact dc0_none (fun e he => by simp at he) | exact ds_none (fun e he => by simp at he) | exact d0_nil (fun e he => by simp at he) | exact dm_nil (fun e he => by simp at he)), ?_⟩
    refine Goes.step rfl (fun _ h₁ => ?_)
    replace hF := (f0_rely hFr) hF h₁
    clear h₁
    rw [stepG_cond (t := true) rfl]
    simp only [goes_go, if_true, if_false, Bool.false_eq_true, ↓reduceIte]
    refine ⟨(by first | exact dc0_none (fun e he => by simp at he) | exact ds_none (fun e he => by simp at he) | exact d0_nil (fun e he => by simp at he) | exact dm_nil (fun e he => by simp at he)), ?_⟩
    refine Goes.step rfl (fun _ h₁ => ?_)
    replace hF := (f0_rely hFr) hF h₁
    clear h₁
    rw [stepG_ret']
    simp only [goes_go]
    refine ⟨(by first | exact dc0_none (fun e he => by simp at he) | exact ds_none (fun e he => by simp at he) | exact d0_nil (fun e he => by simp at he) | exact dm_nil (fun e he => by simp at he)), ?_⟩
    refine Goes.stop (fun w₃ h₃ => ?_)
    replace hF := f0_rely hFr hF h₃
    clear h₃
    refine ⟨rfl, _, stepG_unwind_entry (v := .tuple #[]) (evs := #[mk .enable]) rfl H.f_enable (x_enable_n L) (x_enable_b L) (x_enable_x L) (x_enable_f L) (by simp [Extern.Race.none_]) (by simp [mk]) (by simp [mk]), mT + 1, ?_⟩
    refine Goes.step rfl (fun _ h₁ => ?_)
    replace hF := (f0_rely hFr) hF h₁
    clear h₁
    refine goes_leave0 rfl rfl H.f_add rfl ⟨(by first | exact dc0_none (fun e he => by simp at he) | exact ds_none (fun e he => by simp at he) | exact d0_nil (fun e he => by simp at he) | exact dm_nil (fun e he => by simp at he)), ?_⟩
    walk_nrm
    exact hT _ hF.1 hF.2
  · obtain ⟨V, hV⟩ : ∃ V : Int, V = (v : Int) + 1 := ⟨_, rfl⟩
    obtain ⟨S, hS⟩ : ∃ S : Int, S = V * KK := ⟨_, rfl⟩
    have eS : IntKind.u64.wrap ((v : Int) * KK + 4294967296) = S := by rw [IntKind.wrap_u64, hS, hV]; simp only [KK]; omega
    rw [← hV, ← hS]
    have a1 : S / 4294967296 = V := by rw [hS]; simp only [KK]; omega
    have b1 : bits .and .u64 S 2147483648 = 0 := by rw [hS, hV]; have := st_flag (v + 1) 0 (by omega) (by omega); simpa [KK] using this
    have b2 : bits .and .u64 S 2147483647 = 0 := by rw [hS, hV]; have := st_waiters (v + 1) 0 (by omega) (by omega); simpa [KK] using this
    have c1 : IntKind.i32.wrap V = V := by rw [IntKind.wrap_i32]; omega
    have hV1 : 1 < V := by omega
    have hV2 : V < 2147483648 := by omega
    have q1 : (V == 1) = false := by simp; omega
    have q2 : decide (V = 1) = false := decide_eq_false (by omega)
    have q3 : decide (V < 0) = false := decide_eq_false (by omega)
    have q4 : decide (0 < V) = true := decide_eq_true (by omega)
    have q5 : (V == 0) = false := by simp; omega
    have q6 : decide (V = 0) = false := decide_eq_false (by omega)
    refine ⟨_, (stepG_add_atomic rfl rfl (by k_ne) rfl H.f_addU64 (x_addU64_n L) (x_addU64_b L) (x_addU64_x L) .u64 (x_addU64_f L) rfl rfl hw.cellSt (hw.thaw 0)).trans (by rw [eS]; rfl), 110, ?_⟩
    replace hF : F (w₂.setCell (stA E.Wg) (.int .u64 S)) ∧ WgLive E.ty E.Wg (w₂.setCell (stA E.Wg) (.int .u64 S)) := ⟨hFw _ _ hF.1 ⟨_, _, hw.setSt _⟩, ⟨_, _, hw.setSt _⟩⟩
    clear hw hS hV eS hc
    walk_nrm
    refine Goes.step rfl (fun _ h₁ => ?_)
    replace hF := (f0_rely hFr) hF h₁
    clear h₁
    refine goes_oper_k rfl rfl (by k_ne) (fun K hK => ?_)
    go_simp
    refine hK _ _ ⟨?_, ?_⟩
    · first | refine dc0_none ?_ | refine ds_none ?_ | refine d0_nil ?_ | refine dm_nil ?_
      intro e he
      have hm := mem_listed he
      simp [go_sem, *] at hm
    clear hK K
    try w_num
    refine Goes.step rfl (fun _ h₁ => ?_)
    replace hF := (f0_rely hFr) hF h₁
    clear h₁
    rw [stepG_region_end]
    simp only [goes_go]
    refine ⟨(by first | exact dc0_none (fun e he => by simp at he) | exact ds_none (fun e he => by simp at he) | exact d0_nil (fun e he => by simp at he) | exact dm_nil (fun e he => by simp at he)), ?_⟩
    refine Goes.step rfl (fun _ h₁ => ?_)
    replace hF := (f0_rely hFr) hF h₁
    clear h₁
    rw [stepG_ret']
    simp only [goes_go]
    refine ⟨(by first | exact dc0_none (fun e he => by simp at he) | exact ds_none (fun e he => by simp at he) | exact d0_nil (fun e he => by simp at he) | exact dm_nil (fun e he => by simp at he)), ?_⟩
    refine Goes.step rfl (fun _ h₁ => ?_)
    replace hF := (f0_rely hFr) hF h₁
    clear h₁
    refine goes_leave1 rfl rfl H.f_uAdd rfl ⟨(by first | exact dc0_none (fun e he => by simp at he) | exact ds_none (fun e he => by simp at he) | exact d0_nil (fun e he => by simp at he) | exact dm_nil (fun e he => by simp at he)), ?_⟩
    walk_nrm
    refine Goes.step rfl (fun _ h₁ => ?_)
    replace hF := (f0_rely hFr) hF h₁
    clear h₁
    refine goes_oper_k rfl rfl (by k_ne) (fun K hK => ?_)
    go_simp
    refine hK _ _ ⟨?_, ?_⟩
    · first | refine dc0_none ?_ | refine ds_none ?_ | refine d0_nil ?_ | refine dm_nil ?_
      intro e he
      have hm := mem_listed he
      simp [go_sem, *] at hm
    clear hK K
    try w_num
    refine Goes.step rfl (fun _ h₁ => ?_)
    replace hF := (f0_rely hFr) hF h₁
    clear h₁
    rw [stepG_region_end]
    simp only [goes_go]
    refine ⟨(by first | exact dc0_none (fun e he => by simp at he) | exact ds_none (fun e he => by simp at he) | exact d0_nil (fun e he => by simp at he) | exact dm_nil (fun e he => by simp at he)), ?_⟩
    refine Goes.step rfl (fun _ h₁ => ?_)
    replace hF := (f0_rely hFr) hF h₁
    clear h₁
    rw [stepG_seq]
    simp only [goes_go]
    refine ⟨(by first | exact dc0_none (fun e he => by simp at he) | exact ds_none (fun e he => by simp at he) | exact d0_nil (fun e he => by simp at he) | exact dm_nil (fun e he => by simp at he)), ?_⟩
    refine Goes.step rfl (fun _ h₁ => ?_)
    replace hF := (f0_rely hFr) hF h₁
    clear h₁
    rw [stepG_seq]
    simp only [goes_go]
    refine ⟨(by first | exact dc0_none (fun e he => by simp at he) | exact ds_none (fun e he => by simp at he) | exact d0_nil (fun e he => by simp at he) | exact dm_nil (fun e he => by simp at he)), ?_⟩
    refine Goes.step rfl (fun _ h₁ => ?_)
    replace hF := (f0_rely hFr) hF h₁
    clear h₁
    rw [stepG_region]
    simp only [goes_go, List.size_toArray, List.length_cons, List.length_nil, Nat.reduceAdd, Nat.zero_add, List.range, List.range.loop]
    refine ⟨(by first | exact dc0_none (fun e he => by simp at he) | exact ds_none (fun e he => by simp at he) | exact d0_nil (fun e he => by simp at he) | exact dm_nil (fun e he => by simp at he)), ?_⟩
    refine Goes.step rfl (fun _ h₁ => ?_)
    replace hF := (f0_rely hFr) hF h₁
    clear h₁
    refine goes_oper_k rfl rfl (by k_ne) (fun K hK => ?_)
    go_simp
    refine hK _ _ ⟨?_, ?_⟩
    · first | refine dc0_none ?_ | refine ds_none ?_ | refine d0_nil ?_ | refine dm_nil ?_
      intro e he
      have hm := mem_listed he
      simp [go_sem, *] at hm
    clear hK K
    try w_num
    refine Goes.step rfl (fun _ h₁ => ?_)
    replace hF := (f0_rely hFr) hF h₁
    clear h₁
    refine goes_oper_k rfl rfl (by k_ne) (fun K hK => ?_)
    go_simp
    refine hK _ _ ⟨?_, ?_⟩
    · first | refine dc0_none ?_ | refine ds_none ?_ | refine d0_nil ?_ | refine dm_nil ?_
      intro e he
      have hm := mem_listed he
      simp [go_sem, *] at hm
    clear hK K
    try w_num
    refine Goes.step rfl (fun _ h₁ => ?_)
    replace hF := (f0_rely hFr) hF h₁
    clear h₁
    refine goes_oper_k rfl rfl (by k_ne) (fun K hK => ?_)
    go_simp
    refine hK _ _ ⟨?_, ?_⟩
    · first | refine dc0_none ?_ | refine ds_none ?_ | refine d0_nil ?_ | refine dm_nil ?_
      intro e he
      have hm := mem_listed he
      simp [go_sem, *] at hm
    clear hK K
    try w_num
    refine Goes.step rfl (fun _ h₁ => ?_)
    replace hF := (f0_rely hFr) hF h₁
    clear h₁
    refine goes_oper_k rfl rfl (by k_ne) (fun K hK => ?_)
    go_simp
    refine hK _ _ ⟨?_, ?_⟩
    · first | refine dc0_none ?_ | refine ds_none ?_ | refine d0_nil ?_ | refine dm_nil ?_
      intro e he
      have hm := mem_listed he
      simp [go_sem, *] at hm
    clear hK K
    try w_num
    refine Goes.step rfl (fun _ h₁ => ?_)
    replace hF := (f0_rely hFr) hF h₁
    clear h₁
    rw [stepG_unwanted rfl rfl]
    simp only [goes_go]
    refine ⟨(by first | exact dc0_none (fun e he => by simp at he) | exact ds_none (fun e he => by simp at he) | exact d0_nil (fun e he => by simp at he) | exact dm_nil (fun e he => by simp at he)), ?_⟩
    walk_nrm
    refine Goes.step rfl (fun _ h₁ => ?_)
    replace hF := (f0_rely hFr) hF h₁
    clear h₁
    rw [stepG_unwanted rfl rfl]
    simp only [goes_go]
    refine ⟨(by first | exact dc0_none (fun e he => by simp at he) | exact ds_none (fun e he => by simp at he) | exact d0_nil (fun e he => by simp at he) | exact dm_nil (fun e he => by simp at he)), ?_⟩
    walk_nrm
    refine Goes.step rfl (fun _ h₁ => ?_)
    replace hF := (f0_rely hFr) hF h₁
    clear h₁
    refine goes_oper_k rfl rfl (by k_ne) (fun K hK => ?_)
    go_simp
    refine hK _ _ ⟨?_, ?_⟩
    · first | refine dc0_none ?_ | refine ds_none ?_ | refine d0_nil ?_ | refine dm_nil ?_
      intro e he
      have hm := mem_listed he
      simp [go_sem, *] at hm
    clear hK K
    try w_num
    refine Goes.step rfl (fun _ h₁ => ?_)
    replace hF := (f0_rely hFr) hF h₁
    clear h₁
    rw [stepG_region_end]
    simp only [goes_go]
    refine ⟨(by first | exact dc0_none (fun e he => by simp at he) | exact ds_none (fun e he => by simp at he) | exact d0_nil (fun e he => by simp at he) | exact dm_nil (fun e he => by simp at he)), ?_⟩
    refine Goes.step rfl (fun _ h₁ => ?_)
    replace hF := (f0_rely hFr) hF h₁
    clear h₁
    rw [stepG_cond (t := false) (by first | rfl | (simp [Act.eval]; omega))]
    simp only [goes_go, if_true, if_false, Bool.false_eq_true, ↓reduceIte]
    refine ⟨(by first | exact dc0_none (fun e he => by simp at he) | exact ds_none (fun e he => by simp at he) | exact d0_nil (fun e he => by simp at he) | exact dm_nil (fun e he => by simp at he)), ?_⟩
    refine Goes.step rfl (fun _ h₁ => ?_)
    replace hF := (f0_rely hFr) hF h₁
    clear h₁
    rw [stepG_skip]
    simp only [goes_go]
    refine ⟨(by first | exact dc0_none (fun e he => by simp at he) | exact ds_none (fun e he => by simp at he) | exact d0_nil (fun e he => by simp at he) | exact dm_nil (fun e he => by simp at he)), ?_⟩
    refine Goes.step rfl (fun _ h₁ => ?_)
    replace hF := (f0_rely hFr) hF h₁
    clear h₁
    rw [stepG_seq]
    simp only [goes_go]
    refine ⟨(by first | exact dc0_none (fun e he => by simp at he) | exact ds_none (fun e he => by simp at he) | exact d0_nil (fun e he => by simp at he) | exact dm_nil (fun e he => by simp at he)), ?_⟩
    refine Goes.step rfl (fun _ h₁ => ?_)
    replace hF := (f0_rely hFr) hF h₁
    clear h₁
    rw [stepG_region]
    simp only [goes_go, List.size_toArray, List.length_cons, List.length_nil, Nat.reduceAdd, Nat.zero_add, List.range, List.range.loop]
    refine ⟨(by first | exact dc0_none (fun e he => by simp at he) | exact ds_none (fun e he => by simp at he) | exact d0_nil (fun e he => by simp at he) | exact dm_nil (fun e he => by simp at he)), ?_⟩
    refine Goes.step rfl (fun _ h₁ => ?_)
    replace hF := (f0_rely hFr) hF h₁
    clear h₁
    refine goes_oper_k rfl rfl (by k_ne) (fun K hK => ?_)
    go_simp
    refine hK _ _ ⟨?_, ?_⟩
    · first | refine dc0_none ?_ | refine ds_none ?_ | refine d0_nil ?_ | refine dm_nil ?_
      intro e he
      have hm := mem_listed he
      simp [go_sem, *] at hm
    clear hK K
    try w_num
    refine Goes.step rfl (fun _ h₁ => ?_)
    replace hF := (f0_rely hFr) hF h₁
    clear h₁
    refine goes_oper_k rfl rfl (by k_ne) (fun K hK => ?_)
    go_simp
    refine hK _ _ ⟨?_, ?_⟩
    · first | refine dc0_none ?_ | refine ds_none ?_ | refine d0_nil ?_ | refine dm_nil ?_
      intro e he
      have hm := mem_listed he
      simp [go_sem, *] at hm
    clear hK K
    try w_num
    refine Goes.step rfl (fun _ h₁ => ?_)
    replace hF := (f0_rely hFr) hF h₁
    clear h₁
    refine goes_oper_k rfl rfl (by k_ne) (fun K hK => ?_)
    go_simp
    refine hK _ _ ⟨?_, ?_⟩
    · first | refine dc0_none ?_ | refine ds_none ?_ | refine d0_nil ?_ | refine dm_nil ?_
      intro e he
      have hm := mem_listed he
      simp [go_sem, *] at hm
    clear hK K
    try w_num
    refine Goes.step rfl (fun _ h₁ => ?_)
    replace hF := (f0_rely hFr) hF h₁
    clear h₁
    refine goes_oper_k rfl rfl (by k_ne) (fun K hK => ?_)
    go_simp
    refine hK _ _ ⟨?_, ?_⟩
    · first | refine dc0_none ?_ | refine ds_none ?_ | refine d0_nil ?_ | refine dm_nil ?_
      intro e he
      have hm := mem_listed he
      simp [go_sem, *] at hm
    clear hK K
    try w_num
    refine Goes.step rfl (fun _ h₁ => ?_)
    replace hF := (f0_rely hFr) hF h₁
    clear h₁
    rw [stepG_region_end]
    simp only [goes_go]
    refine ⟨(by first | exact dc0_none (fun e he => by simp at he) | exact ds_none (fun e he => by simp at he) | exact d0_nil (fun e he => by simp at he) | exact dm_nil (fun e he => by simp at he)), ?_⟩
    refine Goes.step rfl (fun _ h₁ => ?_)
    replace hF := (f0_rely hFr) hF h₁
    clear h₁
    rw [stepG_seq]
    simp only [goes_go]
    refine ⟨(by first | exact dc0_none (fun e he => by simp at he) | exact ds_none (fun e he => by simp at he) | exact d0_nil (fun e he => by simp at he) | exact dm_nil (fun e he => by simp at he)), ?_⟩
    refine Goes.step rfl (fun _ h₁ => ?_)
    replace hF := (f0_rely hFr) hF h₁
    clear h₁
    rw [stepG_region]
    simp only [goes_go, List.size_toArray, List.length_cons, List.length_nil, Nat.reduceAdd, Nat.zero_add, List.range, List.range.loop]
    refine ⟨(by first | exact dc0_none (fun e he => by simp at he) | exact ds_none (fun e he => by simp at he) | exact d0_nil (fun e he => by simp at he) | exact dm_nil (fun e he => by simp at he)), ?_⟩
    refine Goes.step rfl (fun _ h₁ => ?_)
    replace hF := (f0_rely hFr) hF h₁
    clear h₁
    refine goes_oper_k rfl rfl (by k_ne) (fun K hK => ?_)
    go_simp
    refine hK _ _ ⟨?_, ?_⟩
    · first | refine dc0_none ?_ | refine ds_none ?_ | refine d0_nil ?_ | refine dm_nil ?_
      intro e he
      have hm := mem_listed he
      simp [go_sem, *] at hm
    clear hK K
    try w_num
    refine Goes.step rfl (fun _ h₁ => ?_)
    replace hF := (f0_rely hFr) hF h₁
    clear h₁
    refine goes_oper_k rfl rfl (by k_ne) (fun K hK => ?_)
    go_simp
    refine hK _ _ ⟨?_, ?_⟩
    · first | refine dc0_none ?_ | refine ds_none ?_ | refine d0_nil ?_ | refine dm_nil ?_
      intro e he
      have hm := mem_listed he
      simp [go_sem, *] at hm
    clear hK K
    try w_num
    refine Goes.step rfl (fun _ h₁ => ?_)
    replace hF := (f0_rely hFr) hF h₁
    clear h₁
    refine goes_oper_k rfl rfl (by k_ne) (fun K hK => ?_)
    go_simp
    refine hK _ _ ⟨?_, ?_⟩
    · first | refine dc0_none ?_ | refine ds_none ?_ | refine d0_nil ?_ | refine dm_nil ?_
      intro e he
      have hm := mem_listed he
      simp [go_sem, *] at hm
    clear hK K
    try w_num
    refine Goes.step rfl (fun _ h₁ => ?_)
    replace hF := (f0_rely hFr) hF h₁
    clear h₁
    refine goes_oper_k rfl rfl (by k_ne) (fun K hK => ?_)
    go_simp
    refine hK _ _ ⟨?_, ?_⟩
    · first | refine dc0_none ?_ | refine ds_none ?_ | refine d0_nil ?_ | refine dm_nil ?_
      intro e he
      have hm := mem_listed he
      simp [go_sem, *] at hm
    clear hK K
    try w_num
    refine Goes.step rfl (fun _ h₁ => ?_)
    replace hF := (f0_rely hFr) hF h₁
    clear h₁
    rw [stepG_region_end]
    simp only [goes_go]
    refine ⟨(by first | exact dc0_none (fun e he => by simp at he) | exact ds_none (fun e he => by simp at he) | exact d0_nil (fun e he => by simp at he) | exact dm_nil (fun e he => by simp at he)), ?_⟩
    refine Goes.step rfl (fun _ h₁ => ?_)
    replace hF := (f0_rely hFr) hF h₁
    clear h₁
    rw [stepG_seq]
    simp only [goes_go]
    refine ⟨(by first | exact dc0_none (fun e he => by simp at he) | exact ds_none (fun e he => by simp at he) | exact d0_nil (fun e he => by simp at he) | exact dm_nil (fun e he => by simp at he)), ?_⟩
    refine Goes.step rfl (fun _ h₁ => ?_)
    replace hF := (f0_rely hFr) hF h₁
    clear h₁
    rw [stepG_seq]
    simp only [goes_go]
    refine ⟨(by first | exact dc0_none (fun e he => by simp at he) | exact ds_none (fun e he => by simp at he) | exact d0_nil (fun e he => by simp at he) | exact dm_nil (fun e he => by simp at he)), ?_⟩
    refine Goes.step rfl (fun _ h₁ => ?_)
    replace hF := (f0_rely hFr) hF h₁
    clear h₁
    rw [stepG_region]
    simp only [goes_go, List.size_toArray, List.length_cons, List.length_nil, Nat.reduceAdd, Nat.zero_add, List.range, List.range.loop]
    refine ⟨(by first | exact dc0_none (fun e he => by simp at he) | exact ds_none (fun e he => by simp at he) | exact d0_nil (fun e he => by simp at he) | exact dm_nil (fun e he => by simp at he)), ?_⟩
    refine Goes.step rfl (fun _ h₁ => ?_)
    replace hF := (f0_rely hFr) hF h₁
    clear h₁
    refine goes_oper_k rfl rfl (by k_ne) (fun K hK => ?_)
    go_simp
    refine hK _ _ ⟨?_, ?_⟩
    · first | refine dc0_none ?_ | refine ds_none ?_ | refine d0_nil ?_ | refine dm_nil ?_
      intro e he
      have hm := mem_listed he
      simp [go_sem, *] at hm
    clear hK K
    try w_num
    refine Goes.step rfl (fun _ h₁ => ?_)
    replace hF := (f0_rely hFr) hF h₁
    clear h₁
    refine goes_oper_k rfl rfl (by k_ne) (fun K hK => ?_)
    go_simp
    refine hK _ _ ⟨?_, ?_⟩
    · first | refine dc0_none ?_ | refine ds_none ?_ | refine d0_nil ?_ | refine dm_nil ?_
      intro e he
      have hm := mem_listed he
      simp [go_sem, *] at hm
    clear hK K
    try w_num
    refine Goes.step rfl (fun _ h₁ => ?_)
    replace hF := (f0_rely hFr) hF h₁
    clear h₁
    refine goes_oper_k rfl rfl (by k_ne) (fun K hK => ?_)
    go_simp
    refine hK _ _ ⟨?_, ?_⟩
    · first | refine dc0_none ?_ | refine ds_none ?_ | refine d0_nil ?_ | refine dm_nil ?_
      intro e he
      have hm := mem_listed he
      simp [go_sem, *] at hm
    clear hK K
    try w_num
    refine Goes.step rfl (fun _ h₁ => ?_)
    replace hF := (f0_rely hFr) hF h₁
    clear h₁
    refine goes_oper_k rfl rfl (by k_ne) (fun K hK => ?_)
    go_simp
    refine hK _ _ ⟨?_, ?_⟩
    · first | refine dc0_none ?_ | refine ds_none ?_ | refine d0_nil ?_ | refine dm_nil ?_
      intro e he
      have hm := mem_listed he
      simp [go_sem, *] at hm
    clear hK K
    try w_num
    refine Goes.step rfl (fun _ h₁ => ?_)
    replace hF := (f0_rely hFr) hF h₁
    clear h₁
    refine goes_oper_k rfl rfl (by k_ne) (fun K hK => ?_)
    go_simp
    refine hK _ _ ⟨?_, ?_⟩
    · first | refine dc0_none ?_ | refine ds_none ?_ | refine d0_nil ?_ | refine dm_nil ?_
      intro e he
      have hm := mem_listed he
      simp [go_sem, *] at hm
    clear hK K
    try w_num
    refine Goes.step rfl (fun _ h₁ => ?_)
    replace hF := (f0_rely hFr) hF h₁
    clear h₁
    refine goes_oper_k rfl rfl (by k_ne) (fun K hK => ?_)
    go_simp
    refine hK _ _ ⟨?_, ?_⟩
    · first | refine dc0_none ?_ | refine ds_none ?_ | refine d0_nil ?_ | refine dm_nil ?_
      intro e he
      have hm := mem_listed he
      simp [go_sem, *] at hm
    clear hK K
    try w_num
    refine Goes.step rfl (fun _ h₁ => ?_)
    replace hF := (f0_rely hFr) hF h₁
    clear h₁
    refine goes_oper_k rfl rfl (by k_ne) (fun K hK => ?_)
    go_simp
    refine hK _ _ ⟨?_, ?_⟩
    · first | refine dc0_none ?_ | refine ds_none ?_ | refine d0_nil ?_ | refine dm_nil ?_
      intro e he
      have hm := mem_listed he
      simp [go_sem, *] at hm
    clear hK K
    try w_num
    refine Goes.step rfl (fun _ h₁ => ?_)
    replace hF := (f0_rely hFr) hF h₁
    clear h₁
    refine goes_oper_k rfl rfl (by k_ne) (fun K hK => ?_)
    go_simp
    refine hK _ _ ⟨?_, ?_⟩
    · first | refine dc0_none ?_ | refine ds_none ?_ | refine d0_nil ?_ | refine dm_nil ?_
      intro e he
      have hm := mem_listed he
      simp [go_sem, *] at hm
    clear hK K
    try w_num
    refine Goes.step rfl (fun _ h₁ => ?_)
    replace hF := (f0_rely hFr) hF h₁
    clear h₁
    refine goes_oper_k rfl rfl (by k_ne) (fun K hK => ?_)
    go_simp
    refine hK _ _ ⟨?_, ?_⟩
    · first | refine dc0_none ?_ | refine ds_none ?_ | refine d0_nil ?_ | refine dm_nil ?_
      intro e he
      have hm := mem_listed he
      simp [go_sem, *] at hm
    clear hK K
    try w_num
    refine Goes.step rfl (fun _ h₁ => ?_)
    replace hF := (f0_rely hFr) hF h₁
    clear h₁
    refine goes_oper_k rfl rfl (by k_ne) (fun K hK => ?_)
    go_simp
    refine hK _ _ ⟨?_, ?_⟩
    · first | refine dc0_none ?_ | refine ds_none ?_ | refine d0_nil ?_ | refine dm_nil ?_
      intro e he
      have hm := mem_listed he
      simp [go_sem, *] at hm
    clear hK K
    try w_num
    refine Goes.step rfl (fun _ h₁ => ?_)
    replace hF := (f0_rely hFr) hF h₁
    clear h₁
    rw [stepG_region_end]
    simp only [goes_go]
    refine ⟨(by first | exact dc0_none (fun e he => by simp at he) | exact ds_none (fun e he => by simp at he) | exact d0_nil (fun e he => by simp at he) | exact dm_nil (fun e he => by simp at he)), ?_⟩
    refine Goes.step rfl (fun _ h₁ => ?_)
    replace hF := (f0_rely hFr) hF h₁
    clear h₁
    rw [stepG_cond (t := false) (by first | rfl | (simp [Act.eval]; omega))]
    simp only [goes_go, if_true, if_false, Bool.false_eq_true, ↓reduceIte]
    refine ⟨(by first | exact dc0_none (fun e he => by simp at he) | exact ds_none (fun e he => by simp at he) | exact d0_nil (fun e he => by simp at he) | exact dm_nil (fun e he => by simp at he)), ?_⟩
    refine Goes.step rfl (fun _ h₁ => ?_)
    replace hF := (f0_rely hFr) hF h₁
    clear h₁
    rw [stepG_skip]
    simp only [goes_go]
    refine ⟨(by first | exact dc0_none (fun e he => by simp at he) | exact ds_none (fun e he => by simp at he) | exact d0_nil (fun e he => by simp at he) | exact dm_nil (fun e he => by simp at he)), ?_⟩
    refine Goes.step rfl (fun _ h₁ => ?_)
    replace hF := (f0_rely hFr) hF h₁
    clear h₁
    rw [stepG_seq]
    simp only [goes_go]
    refine ⟨(by first | exact dc0_none (fun e he => by simp at he) | exact ds_none (fun e he => by simp at he) | exact d0_nil (fun e he => by simp at he) | exact dm_nil (fun e he => by simp at he)), ?_⟩
    refine Goes.step rfl (fun _ h₁ => ?_)
    replace hF := (f0_rely hFr) hF h₁
    clear h₁
    rw [stepG_seq]
    simp only [goes_go]
    refine ⟨(by first | exact dc0_none (fun e he => by simp at he) | exact ds_none (fun e he => by simp at he) | exact d0_nil (fun e he => by simp at he) | exact dm_nil (fun e he => by simp at he)), ?_⟩
    refine Goes.step rfl (fun _ h₁ => ?_)
    replace hF := (f0_rely hFr) hF h₁
    clear h₁
    rw [stepG_region]
    simp only [goes_go, List.size_toArray, List.length_cons, List.length_nil, Nat.reduceAdd, Nat.zero_add, List.range, List.range.loop]
    refine ⟨(by first | exact dc0_none (fun e he => by simp at he) | exact ds_none (fun e he => by simp at he) | exact d0_nil (fun e he => by simp at he) | exact dm_nil (fun e he => by simp at he)), ?_⟩
    refine Goes.step rfl (fun _ h₁ => ?_)
    replace hF := (f0_rely hFr) hF h₁
    clear h₁
    refine goes_oper_k rfl rfl (by k_ne) (fun K hK => ?_)
    go_simp
    refine hK _ _ ⟨?_, ?_⟩
    · first | refine dc0_none ?_ | refine ds_none ?_ | refine d0_nil ?_ | refine dm_nil ?_
      intro e he
      have hm := mem_listed he
      simp [go_sem, *] at hm
    clear hK K
    try w_num
    refine Goes.step rfl (fun _ h₁ => ?_)
    replace hF := (f0_rely hFr) hF h₁
    clear h₁
    refine goes_oper_k rfl rfl (by k_ne) (fun K hK => ?_)
    go_simp
    refine hK _ _ ⟨?_, ?_⟩
    · first | refine dc0_none ?_ | refine ds_none ?_ | refine d0_nil ?_ | refine dm_nil ?_
      intro e he
      have hm := mem_listed he
      simp [go_sem, *] at hm
    clear hK K
    try w_num
    refine Goes.step rfl (fun _ h₁ => ?_)
    replace hF := (f0_rely hFr) hF h₁
    clear h₁
    rw [stepG_region_end]
    simp only [goes_go]
    refine ⟨(by first | exact dc0_none (fun e he => by simp at he) | exact ds_none (fun e he => by simp at he) | exact d0_nil (fun e he => by simp at he) | exact dm_nil (fun e he => by simp at he)), ?_⟩
    refine Goes.step rfl (fun _ h₁ => ?_)
    replace hF := (f0_rely hFr) hF h₁
    clear h₁
    rw [stepG_cond (t := false) (by first | rfl | (simp [Act.eval]; omega))]
    simp only [goes_go, if_true, if_false, Bool.false_eq_true, ↓reduceIte]
    refine ⟨(by first | exact dc0_none (fun e he => by simp at he) | exact ds_none (fun e he => by simp at he) | exact d0_nil (fun e he => by simp at he) | exact dm_nil (fun e he => by simp at he)), ?_⟩
    refine Goes.step rfl (fun _ h₁ => ?_)
    replace hF := (f0_rely hFr) hF h₁
    clear h₁
    rw [stepG_skip]
    simp only [goes_go]
    refine ⟨(by first | exact dc0_none (fun e he => by simp at he) | exact ds_none (fun e he => by simp at he) | exact d0_nil (fun e he => by simp at he) | exact dm_nil (fun e he => by simp at he)), ?_⟩
    refine Goes.step rfl (fun _ h₁ => ?_)
    replace hF := (f0_rely hFr) hF h₁
    clear h₁
    rw [stepG_seq]
    simp only [goes_go]
    refine ⟨(by first | exact dc0_none (fun e he => by simp at he) | exact ds_none (fun e he => by simp at he) | exact d0_nil (fun e he => by simp at he) | exact dm_nil (fun e he => by simp at he)), ?_⟩
    refine Goes.step rfl (fun _ h₁ => ?_)
    replace hF := (f0_rely hFr) hF h₁
    clear h₁
    rw [stepG_seq]
    simp only [goes_go]
    refine ⟨(by first | exact dc0_none (fun e he => by simp at he) | exact ds_none (fun e he => by simp at he) | exact d0_nil (fun e he => by simp at he) | exact dm_nil (fun e he => by simp at he)), ?_⟩
    refine Goes.step rfl (fun _ h₁ => ?_)
    replace hF := (f0_rely hFr) hF h₁
    clear h₁
    rw [stepG_region]
    simp only [goes_go, List.size_toArray, List.length_cons, List.length_nil, Nat.reduceAdd, Nat.zero_add, List.range, List.range.loop]
    refine ⟨(by first | exact dc0_none (fun e he => by simp at he) | exact ds_none (fun e he => by simp at he) | exact d0_nil (fun e he => by simp at he) | exact dm_nil (fun e he => by simp at he)), ?_⟩
    refine Goes.step rfl (fun _ h₁ => ?_)
    replace hF := (f0_rely hFr) hF h₁
    clear h₁
    refine goes_oper_k rfl rfl (by k_ne) (fun K hK => ?_)
    go_simp
    refine hK _ _ ⟨?_, ?_⟩
    · first | refine dc0_none ?_ | refine ds_none ?_ | refine d0_nil ?_ | refine dm_nil ?_
      intro e he
      have hm := mem_listed he
      simp [go_sem, *] at hm
    clear hK K
    try w_num
    refine Goes.step rfl (fun _ h₁ => ?_)
    replace hF := (f0_rely hFr) hF h₁
    clear h₁
    refine goes_oper_k rfl rfl (by k_ne) (fun K hK => ?_)
    go_simp
    refine hK _ _ ⟨?_, ?_⟩
    · first | refine dc0_none ?_ | refine ds_none ?_ | refine d0_nil ?_ | refine dm_nil ?_
      intro e he
      have hm := mem_listed he
      simp [go_sem, *] at hm
    clear hK K
    try w_num
    refine Goes.step rfl (fun _ h₁ => ?_)
    replace hF := (f0_rely hFr) hF h₁
    clear h₁
    refine goes_oper_k rfl rfl (by k_ne) (fun K hK => ?_)
    go_simp
    refine hK _ _ ⟨?_, ?_⟩
    · first | refine dc0_none ?_ | refine ds_none ?_ | refine d0_nil ?_ | refine dm_nil ?_
      intro e he
      have hm := mem_listed he
      simp [go_sem, *] at hm
    clear hK K
    try w_num
    refine Goes.step rfl (fun _ h₁ => ?_)
    replace hF := (f0_rely hFr) hF h₁
    clear h₁
    rw [stepG_unwanted rfl rfl]
    simp only [goes_go]
    refine ⟨(by first | exact dc0_none (fun e he => by simp at he) | exact ds_none (fun e he => by simp at he) | exact d0_nil (fun e he => by simp at he) | exact dm_nil (fun e he => by simp at he)), ?_⟩
    walk_nrm
    refine Goes.step rfl (fun _ h₁ => ?_)
    replace hF := (f0_rely hFr) hF h₁
    clear h₁
    rw [stepG_unwanted rfl rfl]
    simp only [goes_go]
    refine ⟨(by first | exact dc0_none (fun e he => by simp at he) | exact ds_none (fun e he => by simp at he) | exact d0_nil (fun e he => by simp at he) | exact dm_nil (fun e he => by simp at he)), ?_⟩
    walk_nrm
    refine Goes.step rfl (fun _ h₁ => ?_)
    replace hF := (f0_rely hFr) hF h₁
    clear h₁
    refine goes_oper_k rfl rfl (by k_ne) (fun K hK => ?_)
    go_simp
    refine hK _ _ ⟨?_, ?_⟩
    · first | refine dc0_none ?_ | refine ds_none ?_ | refine d0_nil ?_ | refine dm_nil ?_
      intro e he
      have hm := mem_listed he
      simp [go_sem, *] at hm
    clear hK K
    try w_num
    refine Goes.step rfl (fun _ h₁ => ?_)
    replace hF := (f0_rely hFr) hF h₁
    clear h₁
    refine goes_oper_k rfl rfl (by k_ne) (fun K hK => ?_)
    go_simp
    refine hK _ _ ⟨?_, ?_⟩
    · first | refine dc0_none ?_ | refine ds_none ?_ | refine d0_nil ?_ | refine dm_nil ?_
      intro e he
      have hm := mem_listed he
      simp [go_sem, *] at hm
    clear hK K
    try w_num
    refine Goes.step rfl (fun _ h₁ => ?_)
    replace hF := (f0_rely hFr) hF h₁
    clear h₁
    rw [stepG_unwanted rfl rfl]
    simp only [goes_go]
    refine ⟨(by first | exact dc0_none (fun e he => by simp at he) | exact ds_none (fun e he => by simp at he) | exact d0_nil (fun e he => by simp at he) | exact dm_nil (fun e he => by simp at he)), ?_⟩
    walk_nrm
    refine Goes.step rfl (fun _ h₁ => ?_)
    replace hF := (f0_rely hFr) hF h₁
    clear h₁
    rw [stepG_unwanted rfl rfl]
    simp only [goes_go]
    refine ⟨(by first | exact dc0_none (fun e he => by simp at he) | exact ds_none (fun e he => by simp at he) | exact d0_nil (fun e he => by simp at he) | exact dm_nil (fun e he => by simp at he)), ?_⟩
    walk_nrm
    refine Goes.step rfl (fun _ h₁ => ?_)
    replace hF := (f0_rely hFr) hF h₁
    clear h₁
    rw [stepG_unwanted rfl rfl]
    simp only [goes_go]
    refine ⟨(by first | exact dc0_none (fun e he => by simp at he) | exact ds_none (fun e he => by simp at he) | exact d0_nil (fun e he => by simp at he) | exact dm_nil (fun e he => by simp at he)), ?_⟩
    walk_nrm
    refine Goes.step rfl (fun _ h₁ => ?_)
    replace hF := (f0_rely hFr) hF h₁
    clear h₁
    rw [stepG_unwanted rfl rfl]
    simp only [goes_go]
    refine ⟨(by first | exact dc0_none (fun e he => by simp at he) | exact ds_none (fun e he => by simp at he) | exact d0_nil (fun e he => by simp at he) | exact dm_nil (fun e he => by simp at he)), ?_⟩
    walk_nrm
    refine Goes.step rfl (fun _ h₁ => ?_)
    replace hF := (f0_rely hFr) hF h₁
    clear h₁
    refine goes_oper_k rfl rfl (by k_ne) (fun K hK => ?_)
    go_simp
    refine hK _ _ ⟨?_, ?_⟩
    · first | refine dc0_none ?_ | refine ds_none ?_ | refine d0_nil ?_ | refine dm_nil ?_
      intro e he
      have hm := mem_listed he
      simp [go_sem, *] at hm
    clear hK K
    try w_num
    refine Goes.step rfl (fun _ h₁ => ?_)
    replace hF := (f0_rely hFr) hF h₁
    clear h₁
    rw [stepG_region_end]
    simp only [goes_go]
    refine ⟨(by first | exact dc0_none (fun e he => by simp at he) | exact ds_none (fun e he => by simp at he) | exact d0_nil (fun e he => by simp at he) | exact dm_nil (fun e he => by simp at he)), ?_⟩
    refine Goes.step rfl (fun _ h₁ => ?_)
    replace hF := (f0_rely hFr) hF h₁
    clear h₁
    rw [stepG_cond (t := false) (by first | rfl | (simp [Act.eval]; omega))]
    simp only [goes_go, if_true, if_false, Bool.false_eq_true, ↓reduceIte]
    refine ⟨(by first | exact dc0_none (fun e he => by simp at he) | exact ds_none (fun e he => by simp at he) | exact d0_nil (fun e he => by simp at he) | exact dm_nil (fun e he => by simp at he)), ?_⟩
    refine Goes.step rfl (fun _ h₁ => ?_)
    replace hF := (f0_rely hFr) hF h₁
    clear h₁
    rw [stepG_skip]
    simp only [goes_go]
    refine ⟨(by first | exact dc0_none (fun e he => by simp at he) | exact ds_none (fun e he => by simp at he) | exact d0_nil (fun e he => by simp at he) | exact dm_nil (fun e he => by simp at he)), ?_⟩
    refine Goes.step rfl (fun _ h₁ => ?_)
    replace hF := (f0_rely hFr) hF h₁
    clear h₁
    rw [stepG_seq]
    simp only [goes_go]
    refine ⟨(by first | exact dc0_none (fun e he => by simp at he) | exact ds_none (fun e he => by simp at he) | exact d0_nil (fun e he => by simp at he) | exact dm_nil (fun e he => by simp at he)), ?_⟩
    refine Goes.step rfl (fun _ h₁ => ?_)
    replace hF := (f0_rely hFr) hF h₁
    clear h₁
    rw [stepG_seq]
    simp only [goes_go]
    refine ⟨(by first | exact dc0_none (fun e he => by simp at he) | exact ds_none (fun e he => by simp at he) | exact d0_nil (fun e he => by simp at he) | exact dm_nil (fun e he => by simp at he)), ?_⟩
    refine Goes.step rfl (fun _ h₁ => ?_)
    replace hF := (f0_rely hFr) hF h₁
    clear h₁
    rw [stepG_region]
    simp only [goes_go, List.size_toArray, List.length_cons, List.length_nil, Nat.reduceAdd, Nat.zero_add, List.range, List.range.loop]
    refine ⟨(by first | exact dc0_none (fun e he => by simp at he) | exact ds_none (fun e he => by simp at he) | exact d0_nil (fun e he => by simp at he) | exact dm_nil (fun e he => by simp at he)), ?_⟩
    refine Goes.step rfl (fun _ h₁ => ?_)
    replace hF := (f0_rely hFr) hF h₁
    clear h₁
    refine goes_oper_k rfl rfl (by k_ne) (fun K hK => ?_)
    go_simp
    refine hK _ _ ⟨?_, ?_⟩
    · first | refine dc0_none ?_ | refine ds_none ?_ | refine d0_nil ?_ | refine dm_nil ?_
      intro e he
      have hm := mem_listed he
      simp [go_sem, *] at hm
    clear hK K
    try w_num
    refine Goes.step rfl (fun _ h₁ => ?_)
    replace hF := (f0_rely hFr) hF h₁
    clear h₁
    refine goes_oper_k rfl rfl (by k_ne) (fun K hK => ?_)
    go_simp
    refine hK _ _ ⟨?_, ?_⟩
    · first | refine dc0_none ?_ | refine ds_none ?_ | refine d0_nil ?_ | refine dm_nil ?_
      intro e he
      have hm := mem_listed he
      simp [go_sem, *] at hm
    clear hK K
    try w_num
    refine Goes.step rfl (fun _ h₁ => ?_)
    replace hF := (f0_rely hFr) hF h₁
    clear h₁
    refine goes_oper_k rfl rfl (by k_ne) (fun K hK => ?_)
    go_simp
    refine hK _ _ ⟨?_, ?_⟩
    · first | refine dc0_none ?_ | refine ds_none ?_ | refine d0_nil ?_ | refine dm_nil ?_
      intro e he
      have hm := mem_listed he
      simp [go_sem, *] at hm
    clear hK K
    try w_num
    refine Goes.step rfl (fun _ h₁ => ?_)
    replace hF := (f0_rely hFr) hF h₁
    clear h₁
    rw [stepG_unwanted rfl rfl]
    simp only [goes_go]
    refine ⟨(by first | exact dc0_none (fun e he => by simp at he) | exact ds_none (fun e he => by simp at he) | exact d0_nil (fun e he => by simp at he) | exact dm_nil (fun e he => by simp at he)), ?_⟩
    walk_nrm
    refine Goes.step rfl (fun _ h₁ => ?_)
    replace hF := (f0_rely hFr) hF h₁
    clear h₁
    rw [stepG_unwanted rfl rfl]
    simp only [goes_go]
    refine ⟨(by first | exact dc0_none (fun e he => by simp at he) | exact ds_none (fun e he => by simp at he) | exact d0_nil (fun e he => by simp at he) | exact dm_nil (fun e he => by simp at he)), ?_⟩
    walk_nrm
    refine Goes.step rfl (fun _ h₁ => ?_)
    replace hF := (f0_rely hFr) hF h₁
    clear h₁
    refine goes_oper_k rfl rfl (by k_ne) (fun K hK => ?_)
    go_simp
    refine hK _ _ ⟨?_, ?_⟩
    · first | refine dc0_none ?_ | refine ds_none ?_ | refine d0_nil ?_ | refine dm_nil ?_
      intro e he
      have hm := mem_listed he
      simp [go_sem, *] at hm
    clear hK K
    try w_num
    refine Goes.step rfl (fun _ h₁ => ?_)
    replace hF := (f0_rely hFr) hF h₁
    clear h₁
    rw [stepG_region_end]
    simp only [goes_go]
    refine ⟨(by first | exact dc0_none (fun e he => by simp at he) | exact ds_none (fun e he => by simp at he) | exact d0_nil (fun e he => by simp at he) | exact dm_nil (fun e he => by simp at he)), ?_⟩
    refine Goes.step rfl (fun _ h₁ => ?_)
    replace hF := (f0_rely hFr) hF h₁
    clear h₁
    rw [stepG_cond (t := true) (by first | rfl | (simp [Act.eval]; omega))]
    simp only [goes_go, if_true, if_false, Bool.false_eq_true, ↓reduceIte]
    refine ⟨(by first | exact dc0_none (fun e he => by simp at he) | exact ds_none (fun e he => by simp at he) | exact d0_nil (fun e he => by simp at he) | exact dm_nil (fun e he => by simp at he)), ?_⟩
    refine Goes.step rfl (fun _ h₁ => ?_)
    replace hF := (f0_rely hFr) hF h₁
    clear h₁
    rw [stepG_ret']
    simp only [goes_go]
    refine ⟨(by first | exact dc0_none (fun e he => by simp at he) | exact ds_none (fun e he => by simp at he) | exact d0_nil (fun e he => by simp at he) | exact dm_nil (fun e he => by simp at he)), ?_⟩
    refine Goes.stop (fun w₃ h₃ => ?_)
    replace hF := f0_rely hFr hF h₃
    clear h₃
    refine ⟨rfl, _, stepG_unwind_entry (v := .tuple #[]) (evs := #[mk .enable]) rfl H.f_enable (x_enable_n L) (x_enable_b L) (x_enable_x L) (x_enable_f L) (by simp [Extern.Race.none_]) (by simp [mk]) (by simp [mk]), mT + 1, ?_⟩
    refine Goes.step rfl (fun _ h₁ => ?_)
    replace hF := (f0_rely hFr) hF h₁
    clear h₁
    refine goes_leave0 rfl rfl H.f_add rfl ⟨(by first | exact dc0_none (fun e he => by simp at he) | exact ds_none (fun e he => by simp at he) | exact d0_nil (fun e he => by simp at he) | exact dm_nil (fun e he => by simp at he)), ?_⟩
    walk_nrm
    exact hT _ hF.1 hF.2
end Go.Proofs.Ytiobhgemjbjipaa
