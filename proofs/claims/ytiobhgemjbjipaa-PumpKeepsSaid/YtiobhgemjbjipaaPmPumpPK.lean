/- The law PumpKeeps beside leavers: it answers true. Conditions stand as premises. -/
import Derived.Test.YtiobhgemjbjipaaPmPumpPKb
import Derived.Test.YtiobhgemjbjipaaPmPumpWr
set_option linter.unusedSimpArgs false
set_option linter.unusedVariables false
namespace Go.Proofs.Ytiobhgemjbjipaa
open Go.Conc Go.RowKit Go.Conc.Lib
variable {W : World} {m : Nat}
set_option maxRecDepth 100000 in
set_option maxHeartbeats 8000000 in
theorem pumpkeeps_ok {a : Option Addr} {n c : Nat} {L : List (List (List Int))} (hR : R3 NoB W (.slice a n c) L) :
    Ok Try.prog (Told W) NoB 1 (G ((base 4).at ⟨#[.slice a n c, undef, undef, undef, undef, undef, undef, undef, undef, undef, undef, undef, undef, undef, undef, undef, undef, undef, undef, undef, undef, undef, undef, undef, undef, undef, undef, undef, undef, undef, undef, undef, undef, undef, undef, undef, undef, undef, undef, undef, undef, undef, undef, undef, undef, undef, undef, undef, undef, undef, undef, undef, undef, undef, undef, undef, undef, undef, undef, undef, undef, undef, undef, undef, undef, undef, undef, undef, undef, undef, undef, undef, undef, undef, undef, undef, undef, undef, undef, undef, undef, undef, undef, undef, undef, undef, undef, undef, undef, undef, undef, undef, undef, undef, undef, undef, undef, undef], []⟩ [.code bodyPK]) []) W := by
  obtain rfl := hR.len
  have hold0 : ∀ b, NoB b → b < W.heap.size := fun b h => h.elim
  simp only [bodyPK, Try.f4, Option.getD_some]
  refine Ok.step rfl (fun _ h₁ => ?_)
  obtain ⟨d, rfl⟩ := h₁
  rw [stepG_seq]
  simp only [goes_go]
  refine ⟨ok_none _, Ok.at ?_⟩
  clear d
  refine Ok.step rfl (fun _ h₁ => ?_)
  obtain ⟨d, rfl⟩ := h₁
  rw [stepG_region]
  simp only [goes_go, List.size_toArray, List.length_cons, List.length_nil, Nat.reduceAdd, Nat.zero_add, List.range, List.range.loop]
  refine ⟨ok_none _, Ok.at ?_⟩
  clear d
  refine Ok.step rfl (fun _ h₁ => ?_)
  obtain ⟨d, rfl⟩ := h₁
  refine goes_oper_k rfl rfl (by decide) (fun K hK => ?_)
  go_simp
  refine hK _ _ ⟨⟨Nat.le_refl _, fun e he => ?_⟩, Ok.at ?_⟩
  · have hm := mem_listed he
    simp [go_sem] at hm
  clear hK K d
  refine Ok.step rfl (fun _ h₁ => ?_)
  obtain ⟨d, rfl⟩ := h₁
  rw [stepG_region_end]
  simp only [goes_go]
  refine ⟨ok_none _, Ok.at ?_⟩
  clear d
  refine Ok.step rfl (fun _ h₁ => ?_)
  obtain ⟨d, rfl⟩ := h₁
  rw [stepG_seq]
  simp only [goes_go]
  refine ⟨ok_none _, Ok.at ?_⟩
  clear d
  refine Ok.step rfl (fun _ h₁ => ?_)
  obtain ⟨d, rfl⟩ := h₁
  rw [stepG_region]
  simp only [goes_go, List.size_toArray, List.length_cons, List.length_nil, Nat.reduceAdd, Nat.zero_add, List.range, List.range.loop]
  refine ⟨ok_none _, Ok.at ?_⟩
  clear d
  refine Ok.step rfl (fun _ h₁ => ?_)
  obtain ⟨d, rfl⟩ := h₁
  refine goes_call rfl rfl (by decide) rfl Try.func7 nm_first1 rfl ⟨ok_none _, Ok.at ?_⟩
  clear d
  walk_nrmf Try.f7
  refine first1_ok hold0 (by omega) (fun Old1 w1 e1 hold1 => ?_)
  have hR1 := hR.ext e1
  walk_nrm
  refine Ok.step rfl (fun _ h₁ => ?_)
  obtain ⟨d, rfl⟩ := h₁
  refine goes_oper_k rfl rfl (by decide) (fun K hK => ?_)
  go_simp
  refine hK _ _ ⟨⟨Nat.le_refl _, fun e he => ?_⟩, Ok.at ?_⟩
  · have hm := mem_listed he
    simp [go_sem] at hm
  clear hK K d
  refine Ok.step rfl (fun _ h₁ => ?_)
  obtain ⟨d, rfl⟩ := h₁
  rw [stepG_region_end]
  simp only [goes_go]
  refine ⟨ok_none _, Ok.at ?_⟩
  clear d
  refine Ok.step rfl (fun _ h₁ => ?_)
  obtain ⟨d, rfl⟩ := h₁
  rw [stepG_seq]
  simp only [goes_go]
  refine ⟨ok_none _, Ok.at ?_⟩
  clear d
  refine Ok.step rfl (fun _ h₁ => ?_)
  obtain ⟨d, rfl⟩ := h₁
  rw [stepG_seq]
  simp only [goes_go]
  refine ⟨ok_none _, Ok.at ?_⟩
  clear d
  refine Ok.step rfl (fun _ h₁ => ?_)
  obtain ⟨d, rfl⟩ := h₁
  rw [stepG_region]
  simp only [goes_go, List.size_toArray, List.length_cons, List.length_nil, Nat.reduceAdd, Nat.zero_add, List.range, List.range.loop]
  refine ⟨ok_none _, Ok.at ?_⟩
  clear d
  refine Ok.step rfl (fun _ h₁ => ?_)
  obtain ⟨d, rfl⟩ := h₁
  refine goes_oper_k rfl rfl (by decide) (fun K hK => ?_)
  go_simp
  refine hK _ _ ⟨⟨Nat.le_refl _, fun e he => ?_⟩, Ok.at ?_⟩
  · have hm := mem_listed he
    simp [go_sem] at hm
  clear hK K d
  refine Ok.step rfl (fun _ h₁ => ?_)
  obtain ⟨d, rfl⟩ := h₁
  refine goes_oper_k rfl rfl (by decide) (fun K hK => ?_)
  go_simp
  refine hK _ _ ⟨⟨Nat.le_refl _, fun e he => ?_⟩, Ok.at ?_⟩
  · have hm := mem_listed he
    simp [go_sem] at hm
  clear hK K d
  refine Ok.step rfl (fun _ h₁ => ?_)
  obtain ⟨d, rfl⟩ := h₁
  rw [stepG_region_end]
  simp only [goes_go]
  refine ⟨ok_none _, Ok.at ?_⟩
  clear d
  refine Ok.step rfl (fun _ h₁ => ?_)
  obtain ⟨d, rfl⟩ := h₁
  rw [stepG_cond (t := false) rfl]
  simp only [goes_go, if_true, if_false, Bool.false_eq_true, ↓reduceIte]
  refine ⟨ok_none _, Ok.at ?_⟩
  clear d
  refine Ok.step rfl (fun _ h₁ => ?_)
  obtain ⟨d, rfl⟩ := h₁
  rw [stepG_skip]
  simp only [goes_go]
  refine ⟨ok_none _, Ok.at ?_⟩
  clear d
  refine Ok.step rfl (fun _ h₁ => ?_)
  obtain ⟨d, rfl⟩ := h₁
  rw [stepG_seq]
  simp only [goes_go]
  refine ⟨ok_none _, Ok.at ?_⟩
  clear d
  refine Ok.step rfl (fun _ h₁ => ?_)
  obtain ⟨d, rfl⟩ := h₁
  rw [stepG_seq]
  simp only [goes_go]
  refine ⟨ok_none _, Ok.at ?_⟩
  clear d
  refine Ok.step rfl (fun _ h₁ => ?_)
  obtain ⟨d, rfl⟩ := h₁
  rw [stepG_region]
  simp only [goes_go, List.size_toArray, List.length_cons, List.length_nil, Nat.reduceAdd, Nat.zero_add, List.range, List.range.loop]
  refine ⟨ok_none _, Ok.at ?_⟩
  clear d
  refine Ok.step rfl (fun _ h₁ => ?_)
  obtain ⟨d, rfl⟩ := h₁
  refine goes_oper_k rfl rfl (by decide) (fun K hK => ?_)
  go_simp
  refine hK _ _ ⟨⟨Nat.le_refl _, fun e he => ?_⟩, Ok.at ?_⟩
  · have hm := mem_listed he
    simp [go_sem] at hm
  clear hK K d
  refine Ok.step rfl (fun _ h₁ => ?_)
  obtain ⟨d, rfl⟩ := h₁
  refine goes_call rfl rfl (by decide) rfl Try.func8 nm_light rfl ⟨ok_none _, Ok.at ?_⟩
  clear d
  walk_nrmf Try.f8
  refine light_ok hR1 (fun t ht => ?_)
  cases t
  ·
    walk_nrm
    refine Ok.step rfl (fun _ h₁ => ?_)
    obtain ⟨d, rfl⟩ := h₁
    refine goes_oper_k rfl rfl (by decide) (fun K hK => ?_)
    go_simp
    refine hK _ _ ⟨⟨Nat.le_refl _, fun e he => ?_⟩, Ok.at ?_⟩
    · have hm := mem_listed he
      simp [go_sem] at hm
    clear hK K d
    refine Ok.step rfl (fun _ h₁ => ?_)
    obtain ⟨d, rfl⟩ := h₁
    rw [stepG_region_end]
    simp only [goes_go]
    refine ⟨ok_none _, Ok.at ?_⟩
    clear d
    refine Ok.step rfl (fun _ h₁ => ?_)
    obtain ⟨d, rfl⟩ := h₁
    rw [stepG_cond (t := true) rfl]
    simp only [goes_go, if_true, if_false, Bool.false_eq_true, ↓reduceIte]
    refine ⟨ok_none _, Ok.at ?_⟩
    clear d
    refine Ok.step rfl (fun _ h₁ => ?_)
    obtain ⟨d, rfl⟩ := h₁
    rw [stepG_seq]
    simp only [goes_go]
    refine ⟨ok_none _, Ok.at ?_⟩
    clear d
    refine Ok.step rfl (fun _ h₁ => ?_)
    obtain ⟨d, rfl⟩ := h₁
    rw [stepG_region]
    simp only [goes_go, List.size_toArray, List.length_cons, List.length_nil, Nat.reduceAdd, Nat.zero_add, List.range, List.range.loop]
    refine ⟨ok_none _, Ok.at ?_⟩
    clear d
    refine Ok.step rfl (fun _ h₁ => ?_)
    obtain ⟨d, rfl⟩ := h₁
    refine goes_oper_k rfl rfl (by decide) (fun K hK => ?_)
    go_simp
    refine hK _ _ ⟨⟨Nat.le_refl _, fun e he => ?_⟩, Ok.at ?_⟩
    · have hm := mem_listed he
      simp [go_sem] at hm
    clear hK K d
    refine Ok.step rfl (fun _ h₁ => ?_)
    obtain ⟨d, rfl⟩ := h₁
    refine goes_oper_k rfl rfl (by decide) (fun K hK => ?_)
    go_simp
    refine hK _ _ ⟨⟨Nat.le_refl _, fun e he => ?_⟩, Ok.at ?_⟩
    · have hm := mem_listed he
      simp [go_sem] at hm
    clear hK K d
    refine Ok.step rfl (fun _ h₁ => ?_)
    obtain ⟨d, rfl⟩ := h₁
    rw [stepG_region_end]
    simp only [goes_go]
    refine ⟨ok_none _, Ok.at ?_⟩
    clear d
    refine Ok.step rfl (fun _ h₁ => ?_)
    obtain ⟨d, rfl⟩ := h₁
    rw [stepG_ret']
    simp only [goes_go]
    refine ⟨ok_none _, Ok.at ?_⟩
    clear d
    exact Ok.top (fn := Try.f4) Try.func4 (by kernel_rfl) rfl (v := .bool true) (resultsC_tmp (fn := Try.f4) (t := 2) rfl _) (fun d => ⟨rfl, _, (e1).at d⟩)
  ·
    have hL := ht.1 rfl
    have hLl := hL.1
    clear ht
    walk_nrm
    refine Ok.step rfl (fun _ h₁ => ?_)
    obtain ⟨d, rfl⟩ := h₁
    refine goes_oper_k rfl rfl (by decide) (fun K hK => ?_)
    go_simp
    refine hK _ _ ⟨⟨Nat.le_refl _, fun e he => ?_⟩, Ok.at ?_⟩
    · have hm := mem_listed he
      simp [go_sem] at hm
    clear hK K d
    refine Ok.step rfl (fun _ h₁ => ?_)
    obtain ⟨d, rfl⟩ := h₁
    rw [stepG_region_end]
    simp only [goes_go]
    refine ⟨ok_none _, Ok.at ?_⟩
    clear d
    refine Ok.step rfl (fun _ h₁ => ?_)
    obtain ⟨d, rfl⟩ := h₁
    rw [stepG_cond (t := false) rfl]
    simp only [goes_go, if_true, if_false, Bool.false_eq_true, ↓reduceIte]
    refine ⟨ok_none _, Ok.at ?_⟩
    clear d
    refine Ok.step rfl (fun _ h₁ => ?_)
    obtain ⟨d, rfl⟩ := h₁
    rw [stepG_skip]
    simp only [goes_go]
    refine ⟨ok_none _, Ok.at ?_⟩
    clear d
    refine Ok.step rfl (fun _ h₁ => ?_)
    obtain ⟨d, rfl⟩ := h₁
    rw [stepG_seq]
    simp only [goes_go]
    refine ⟨ok_none _, Ok.at ?_⟩
    clear d
    refine Ok.step rfl (fun _ h₁ => ?_)
    obtain ⟨d, rfl⟩ := h₁
    rw [stepG_region]
    simp only [goes_go, List.size_toArray, List.length_cons, List.length_nil, Nat.reduceAdd, Nat.zero_add, List.range, List.range.loop]
    refine ⟨ok_none _, Ok.at ?_⟩
    clear d
    refine Ok.step rfl (fun _ h₁ => ?_)
    obtain ⟨d, rfl⟩ := h₁
    refine goes_oper_k rfl rfl (by decide) (fun K hK => ?_)
    go_simp
    refine hK _ _ ⟨⟨Nat.le_refl _, fun e he => ?_⟩, Ok.at ?_⟩
    · have hm := mem_listed he
      simp [go_sem] at hm
    clear hK K d
    refine Ok.step rfl (fun _ h₁ => ?_)
    obtain ⟨d, rfl⟩ := h₁
    rw [stepG_region_end]
    simp only [goes_go]
    refine ⟨ok_none _, Ok.at ?_⟩
    clear d
    refine Ok.step rfl (fun _ h₁ => ?_)
    obtain ⟨d, rfl⟩ := h₁
    rw [stepG_seq]
    simp only [goes_go]
    refine ⟨ok_none _, Ok.at ?_⟩
    clear d
    refine Ok.step rfl (fun _ h₁ => ?_)
    obtain ⟨d, rfl⟩ := h₁
    rw [stepG_seq]
    simp only [goes_go]
    refine ⟨ok_none _, Ok.at ?_⟩
    clear d
    refine Ok.step rfl (fun _ h₁ => ?_)
    obtain ⟨d, rfl⟩ := h₁
    rw [stepG_region]
    simp only [goes_go, List.size_toArray, List.length_cons, List.length_nil, Nat.reduceAdd, Nat.zero_add, List.range, List.range.loop]
    refine ⟨ok_none _, Ok.at ?_⟩
    clear d
    refine Ok.step rfl (fun _ h₁ => ?_)
    obtain ⟨d, rfl⟩ := h₁
    refine goes_oper_k rfl rfl (by decide) (fun K hK => ?_)
    go_simp
    refine hK _ _ ⟨⟨Nat.le_refl _, fun e he => ?_⟩, Ok.at ?_⟩
    · have hm := mem_listed he
      simp [go_sem] at hm
    clear hK K d
    refine Ok.step rfl (fun _ h₁ => ?_)
    obtain ⟨d, rfl⟩ := h₁
    rw [stepG_region_end]
    simp only [goes_go]
    refine ⟨ok_none _, Ok.at ?_⟩
    clear d
    refine pk_want (by omega) hL hR1 hold1 (fun wr va vc VSW _ _ _ _ _ _ _ _ _ _ _ _ _ _ _ _ _ _ _ _ _ _ _ _ _ _ _ _ _ _ _ _ _ _ _ _ _ _ _ _ _ _ _ _ _ _ _ _ _ _ _ _ _ _ _ _ _ _ _ _ _ _ _ _ _ _ _ _ _ _ _ _ _ _ _ _ _ _ _ _ _ _ _ _ _ _ _ _ _ _ _ _ _ _ _ hwf => ?_)
    refine Ok.step rfl (fun _ h₁ => ?_)
    obtain ⟨d, rfl⟩ := h₁
    rw [stepG_seq]
    simp only [goes_go]
    refine ⟨ok_none _, Ok.at ?_⟩
    clear d
    refine Ok.step rfl (fun _ h₁ => ?_)
    obtain ⟨d, rfl⟩ := h₁
    rw [stepG_region]
    simp only [goes_go, List.size_toArray, List.length_cons, List.length_nil, Nat.reduceAdd, Nat.zero_add, List.range, List.range.loop]
    refine ⟨ok_none _, Ok.at ?_⟩
    clear d
    refine Ok.step rfl (fun _ h₁ => ?_)
    obtain ⟨d, rfl⟩ := h₁
    refine goes_oper_k rfl rfl (by decide) (fun K hK => ?_)
    go_simp
    refine hK _ _ ⟨⟨Nat.le_refl _, fun e he => ?_⟩, Ok.at ?_⟩
    · have hm := mem_listed he
      simp [go_sem] at hm
    clear hK K d
    have hRW := hwf.r3 hold1
    have hold2 : ∀ b, Old1 b → b < wr.heap.size := fun b hb => Nat.lt_of_lt_of_le (hold1 b hb) hwf.e.size
    have hR2 := hR1.ext hwf.e
    have E2 := e1.trans hwf.e
    clear hwf hR1
    refine Ok.step rfl (fun _ h₁ => ?_)
    obtain ⟨d, rfl⟩ := h₁
    refine goes_call rfl rfl (by decide) rfl Try.func9 nm_gather rfl ⟨ok_none _, Ok.at ?_⟩
    clear d
    walk_nrmf Try.f9
    refine gather_ok hR2 hL.sm hold2 (by omega) (fun Old3 w3 V3 gl1 e3 hold3 hg1 hmg1 => ?_)
    have htl1 := hmg1.len trivial
    have hgl1 : gl1.length ≤ 48 := by rw [htl1]; exact tl_le hL
    clear htl1
    obtain ⟨ga, gc, rfl, _⟩ := id hg1
    have hn1 := Lib.hid (rfl : gl1.length = gl1.length)
    walk_nrm
    refine Ok.step rfl (fun _ h₁ => ?_)
    obtain ⟨d, rfl⟩ := h₁
    refine goes_oper_k rfl rfl (by decide) (fun K hK => ?_)
    go_simp
    refine hK _ _ ⟨⟨Nat.le_refl _, fun e he => ?_⟩, Ok.at ?_⟩
    · have hm := mem_listed he
      simp [go_sem] at hm
    clear hK K d
    refine Ok.step rfl (fun _ h₁ => ?_)
    obtain ⟨d, rfl⟩ := h₁
    rw [stepG_region_end]
    simp only [goes_go]
    refine ⟨ok_none _, Ok.at ?_⟩
    clear d
    refine Ok.step rfl (fun _ h₁ => ?_)
    obtain ⟨d, rfl⟩ := h₁
    rw [stepG_seq]
    simp only [goes_go]
    refine ⟨ok_none _, Ok.at ?_⟩
    clear d
    refine Ok.step rfl (fun _ h₁ => ?_)
    obtain ⟨d, rfl⟩ := h₁
    rw [stepG_seq]
    simp only [goes_go]
    refine ⟨ok_none _, Ok.at ?_⟩
    clear d
    refine Ok.step rfl (fun _ h₁ => ?_)
    obtain ⟨d, rfl⟩ := h₁
    rw [stepG_region]
    simp only [goes_go, List.size_toArray, List.length_cons, List.length_nil, Nat.reduceAdd, Nat.zero_add, List.range, List.range.loop]
    refine ⟨ok_none _, Ok.at ?_⟩
    clear d
    refine Ok.step rfl (fun _ h₁ => ?_)
    obtain ⟨d, rfl⟩ := h₁
    refine goes_oper_k rfl rfl (by decide) (fun K hK => ?_)
    go_simp
    refine hK _ _ ⟨⟨Nat.le_refl _, fun e he => ?_⟩, Ok.at ?_⟩
    · have hm := mem_listed he
      simp [go_sem] at hm
    clear hK K d
    refine Ok.step rfl (fun _ h₁ => ?_)
    obtain ⟨d, rfl⟩ := h₁
    rw [stepG_region_end]
    simp only [goes_go]
    refine ⟨ok_none _, Ok.at ?_⟩
    clear d
    refine pk_write (by omega) hL hgl1 hg1 hmg1 (fun wg _ _ _ _ _ _ _ _ _ _ _ _ _ _ _ _ _ _ _ _ _ _ _ _ _ _ _ _ _ _ _ _ _ _ _ _ _ _ _ _ _ _ _ _ _ _ _ _ _ _ _ _ _ _ _ _ _ _ _ _ _ _ _ _ _ _ _ _ _ _ _ _ _ _ _ _ _ _ _ _ _ _ _ _ _ _ _ _ _ _ _ _ _ _ hwr => ?_)
    refine Ok.step rfl (fun _ h₁ => ?_)
    obtain ⟨d, rfl⟩ := h₁
    rw [stepG_seq]
    simp only [goes_go]
    refine ⟨ok_none _, Ok.at ?_⟩
    clear d
    refine Ok.step rfl (fun _ h₁ => ?_)
    obtain ⟨d, rfl⟩ := h₁
    rw [stepG_region]
    simp only [goes_go, List.size_toArray, List.length_cons, List.length_nil, Nat.reduceAdd, Nat.zero_add, List.range, List.range.loop]
    refine ⟨ok_none _, Ok.at ?_⟩
    clear d
    refine Ok.step rfl (fun _ h₁ => ?_)
    obtain ⟨d, rfl⟩ := h₁
    refine goes_oper_k rfl rfl (by decide) (fun K hK => ?_)
    go_simp
    refine hK _ _ ⟨⟨Nat.le_refl _, fun e he => ?_⟩, Ok.at ?_⟩
    · have hm := mem_listed he
      simp [go_sem] at hm
    clear hK K d
    have E3 := hwr.ext e3 rfl
    have hold4 : ∀ b, Old3 b → b < wg.heap.size := fun b hb => by rw [hwr.size]; exact hold3 b hb
    clear hwr hg1 hmg1
    refine Ok.step rfl (fun _ h₁ => ?_)
    obtain ⟨d, rfl⟩ := h₁
    refine goes_call rfl rfl (by decide) rfl Try.func9 nm_gather rfl ⟨ok_none _, Ok.at ?_⟩
    clear d
    walk_nrmf Try.f9
    refine gather_ok (hR2.ext E3) hL.sm hold4 (by omega) (fun Old5 w5 V5 gl2 e5 hold5 hg2 hmg2 => ?_)
    have htl := hmg2.len trivial
    have hgl : gl2.length ≤ 48 := by rw [htl]; exact tl_le hL
    obtain ⟨ga2, gc2, rfl, _⟩ := id hg2
    have hRW5 := hRW.ext (E3.trans e5)
    have HTL := Lib.hid htl
    clear htl
    walk_nrm
    refine Ok.step rfl (fun _ h₁ => ?_)
    obtain ⟨d, rfl⟩ := h₁
    refine goes_oper_k rfl rfl (by decide) (fun K hK => ?_)
    go_simp
    refine hK _ _ ⟨⟨Nat.le_refl _, fun e he => ?_⟩, Ok.at ?_⟩
    · have hm := mem_listed he
      simp [go_sem] at hm
    clear hK K d
    refine Ok.step rfl (fun _ h₁ => ?_)
    obtain ⟨d, rfl⟩ := h₁
    rw [stepG_region_end]
    simp only [goes_go]
    refine ⟨ok_none _, Ok.at ?_⟩
    clear d
    refine Ok.step rfl (fun _ h₁ => ?_)
    obtain ⟨d, rfl⟩ := h₁
    rw [stepG_seq]
    simp only [goes_go]
    refine ⟨ok_none _, Ok.at ?_⟩
    clear d
    refine Ok.step rfl (fun _ h₁ => ?_)
    obtain ⟨d, rfl⟩ := h₁
    rw [stepG_region]
    simp only [goes_go, List.size_toArray, List.length_cons, List.length_nil, Nat.reduceAdd, Nat.zero_add, List.range, List.range.loop]
    refine ⟨ok_none _, Ok.at ?_⟩
    clear d
    refine Ok.step rfl (fun _ h₁ => ?_)
    obtain ⟨d, rfl⟩ := h₁
    refine goes_oper_k rfl rfl (by decide) (fun K hK => ?_)
    go_simp
    refine hK _ _ ⟨⟨Nat.le_refl _, fun e he => ?_⟩, Ok.at ?_⟩
    · have hm := mem_listed he
      simp [go_sem] at hm
    clear hK K d
    refine Ok.step rfl (fun _ h₁ => ?_)
    obtain ⟨d, rfl⟩ := h₁
    refine goes_oper_k rfl rfl (by decide) (fun K hK => ?_)
    go_simp
    refine hK _ _ ⟨⟨Nat.le_refl _, fun e he => ?_⟩, Ok.at ?_⟩
    · have hm := mem_listed he
      simp [go_sem] at hm
    clear hK K d
    refine Ok.step rfl (fun _ h₁ => ?_)
    obtain ⟨d, rfl⟩ := h₁
    refine goes_oper_k rfl rfl (by decide) (fun K hK => ?_)
    go_simp
    refine hK _ _ ⟨⟨Nat.le_refl _, fun e he => ?_⟩, Ok.at ?_⟩
    · have hm := mem_listed he
      simp [go_sem] at hm
    clear hK K d
    refine Ok.step rfl (fun _ h₁ => ?_)
    obtain ⟨d, rfl⟩ := h₁
    refine goes_oper_k rfl rfl (by decide) (fun K hK => ?_)
    go_simp
    refine hK _ _ ⟨⟨Nat.le_refl _, fun e he => ?_⟩, Ok.at ?_⟩
    · have hm := mem_listed he
      simp [go_sem] at hm
    clear hK K d
    refine Ok.step rfl (fun _ h₁ => ?_)
    obtain ⟨d, rfl⟩ := h₁
    refine goes_oper_k rfl rfl (by decide) (fun K hK => ?_)
    go_simp
    refine hK _ _ ⟨⟨Nat.le_refl _, fun e he => ?_⟩, Ok.at ?_⟩
    · have hm := mem_listed he
      simp [go_sem] at hm
    clear hK K d
    refine Ok.step rfl (fun _ h₁ => ?_)
    obtain ⟨d, rfl⟩ := h₁
    refine goes_call rfl rfl (by decide) rfl Try.func10 nm_total rfl ⟨ok_none _, Ok.at ?_⟩
    clear d
    walk_nrmf Try.f10
    refine total_ok hRW5 (by omega) (fun row hr => by have := (hL.2 row hr).1; omega) ?_
    rw [← HTL.out]
    clear HTL
    walk_nrm
    refine Ok.step rfl (fun _ h₁ => ?_)
    obtain ⟨d, rfl⟩ := h₁
    refine goes_oper_k rfl rfl (by decide) (fun K hK => ?_)
    go_simp
    refine hK _ _ ⟨⟨Nat.le_refl _, fun e he => ?_⟩, Ok.at ?_⟩
    · have hm := mem_listed he
      simp [go_sem] at hm
    clear hK K d
    refine Ok.step rfl (fun _ h₁ => ?_)
    obtain ⟨d, rfl⟩ := h₁
    refine goes_oper_k rfl rfl (by decide) (fun K hK => ?_)
    go_simp
    refine hK _ _ ⟨⟨Nat.le_refl _, fun e he => ?_⟩, Ok.at ?_⟩
    · have hm := mem_listed he
      simp [go_sem] at hm
    clear hK K d
    refine Ok.step rfl (fun _ h₁ => ?_)
    obtain ⟨d, rfl⟩ := h₁
    refine goes_oper_k rfl rfl (by decide) (fun K hK => ?_)
    go_simp
    refine hK _ _ ⟨⟨Nat.le_refl _, fun e he => ?_⟩, Ok.at ?_⟩
    · have hm := mem_listed he
      simp [go_sem] at hm
    clear hK K d
    refine Ok.step rfl (fun _ h₁ => ?_)
    obtain ⟨d, rfl⟩ := h₁
    refine goes_oper_k rfl rfl (by decide) (fun K hK => ?_)
    go_simp
    refine hK _ _ ⟨⟨Nat.le_refl _, fun e he => ?_⟩, Ok.at ?_⟩
    · have hm := mem_listed he
      simp [go_sem] at hm
    clear hK K d
    refine Ok.step rfl (fun _ h₁ => ?_)
    obtain ⟨d, rfl⟩ := h₁
    refine goes_oper_k rfl rfl (by decide) (fun K hK => ?_)
    go_simp
    refine hK _ _ ⟨⟨Nat.le_refl _, fun e he => ?_⟩, Ok.at ?_⟩
    · have hm := mem_listed he
      simp [go_sem] at hm
    clear hK K d
    refine Ok.step rfl (fun _ h₁ => ?_)
    obtain ⟨d, rfl⟩ := h₁
    refine goes_call rfl rfl (by decide) rfl Try.func11 nm_fronts rfl ⟨ok_none _, Ok.at ?_⟩
    clear d
    walk_nrmf Try.f11
    refine fronts_ok hg2 hRW5 hmg2 (by omega) (by omega) (fun row hr => by have := (hL.2 row hr).1; omega) hold5 (fun w7 e7 => ?_)
    walk_nrm
    refine Ok.step rfl (fun _ h₁ => ?_)
    obtain ⟨d, rfl⟩ := h₁
    refine goes_oper_k rfl rfl (by decide) (fun K hK => ?_)
    go_simp
    refine hK _ _ ⟨⟨Nat.le_refl _, fun e he => ?_⟩, Ok.at ?_⟩
    · have hm := mem_listed he
      simp [go_sem] at hm
    clear hK K d
    refine Ok.step rfl (fun _ h₁ => ?_)
    obtain ⟨d, rfl⟩ := h₁
    refine goes_oper_k rfl rfl (by decide) (fun K hK => ?_)
    go_simp
    refine hK _ _ ⟨⟨Nat.le_refl _, fun e he => ?_⟩, Ok.at ?_⟩
    · have hm := mem_listed he
      simp [go_sem] at hm
    clear hK K d
    refine Ok.step rfl (fun _ h₁ => ?_)
    obtain ⟨d, rfl⟩ := h₁
    rw [stepG_region_end]
    simp only [goes_go]
    refine ⟨ok_none _, Ok.at ?_⟩
    clear d
    refine Ok.step rfl (fun _ h₁ => ?_)
    obtain ⟨d, rfl⟩ := h₁
    rw [stepG_ret']
    simp only [goes_go]
    refine ⟨ok_none _, Ok.at ?_⟩
    clear d
    exact Ok.top (fn := Try.f4) Try.func4 (by kernel_rfl) rfl (v := .bool true) (resultsC_tmp (fn := Try.f4) (t := 2) rfl _) (fun d => ⟨rfl, _, (E2.trans (E3.trans (e5.trans e7))).at d⟩)
theorem pumpkeeps_run {a : Option Addr} {n c : Nat} {L : List (List (List Int))} (hR : R3 NoB W (.slice a n c) L) :
    ∃ M last o w' t', runNT Try.prog (M + 1) (solo (G (Frame.enter Try.prog 4 #[.slice a n c] .normal) []) W) #[] = (.ended o w', t') ∧ runN Try.prog M (solo (G (Frame.enter Try.prog 4 #[.slice a n c] .normal) []) W) = .next last ∧ step Try.prog last = .ended o w' ∧ Conc.Good Try.prog (Told W) last o w' t' := by
  refine run_of_ok (m := 1) (by decide) Try.func4 (rfl : Try.f4.body = some bodyPK) ?_
  simp only [Try.ntmps4, List.size_toArray, List.length_cons, List.length_nil, Nat.reduceAdd, Nat.reduceSub, Array.replicate_succ, Array.replicate_zero, List.push_toArray, List.append_toArray, List.nil_append, List.cons_append]
  exact pumpkeeps_ok hR
end Go.Proofs.Ytiobhgemjbjipaa
