/- light, total, Number, SameBytes: what the law's functions that start nothing answer, beside leavers. Conditions stand as premises. -/
import Derived.Test.YtiobhgemjbjipaaPmPumpBase
set_option linter.unusedSimpArgs false
set_option linter.unusedVariables false
namespace Go.Proofs.Ytiobhgemjbjipaa
open Go.Conc Go.RowKit Go.Conc.Lib
variable {Old : Nat → Prop} {w : World} {Post : Value → World → Prop} {m : Nat} {b₀ : Frame} {a₀ : Act} {ops₀ : Array Oper} {i₀ : Nat} {rest₀ : List Nat} {k₀ : List Item} {cs : List Frame}
variable {a : Option Addr} {n c : Nat} {L : List (List (List Int))}
theorem wrap_succ {i : Nat} (h : i < 1000000) : IntKind.i64.wrap ((i : Int) + 1) = ((i + 1 : Nat) : Int) := by rw [IntKind.wrap_i64]; omega
def MuS (n : Nat) (s : Nat) (a : Act) (_ : World) : Nat := match a.tmps.getD s undef with | .int _ k => n - k.toNat | _ => 0
noncomputable def bodyLi : Code := (Try.f8).body.getD .skip
noncomputable def bodyTo : Code := (Try.f10).body.getD .skip
noncomputable def bodyNu : Code := (Try.f13).body.getD .skip
noncomputable def bodySa : Code := (Try.f15).body.getD .skip
def InvL (w : World) (a : Option Addr) (c : Nat) (L : List (List (List Int))) (ac : Act) (w' : World) : Prop :=
  ∃ (i : Nat) (u1 u2 u4 u5 u6 u7 u8 u9 u10 u11 u12 u13 u14 u15 u16 u17 u18 u19 u20 u21 u22 u23 u24 u25 u26 u27 u28 u29 u30 u31 u32 u33 u34 u35 u36 u37 : Value), i ≤ L.length ∧ (∀ row ∈ L.take i, row.length ≤ 8 ∧ ∀ bs ∈ row, bs.length ≤ 20) ∧ w = w' ∧
    ac = ⟨#[.slice a L.length c, u1, u2, .int .i64 (i : Int), u4, u5, u6, u7, u8, u9, u10, u11, u12, u13, u14, u15, u16, u17, u18, u19, u20, u21, u22, u23, u24, u25, u26, u27, u28, u29, u30, u31, u32, u33, u34, u35, u36, u37], []⟩
def InvL2 (w : World) (a : Option Addr) (c : Nat) (L : List (List (List Int))) (i : Nat) (M : List (List Int)) (ac : Act) (w' : World) : Prop :=
  ∃ (j : Nat) (u1 u2 u5 u6 u7 u8 u9 u10 u11 u12 u13 u14 u15 u16 u17 u18 u19 u20 u21 u22 u23 u24 u25 u26 u27 u28 u29 u30 u31 u32 u33 u34 u35 u36 u37 : Value), j ≤ M.length ∧ (∀ bs ∈ M.take j, bs.length ≤ 20) ∧ w = w' ∧
    ac = ⟨#[.slice a L.length c, u1, u2, .int .i64 (i : Int), .int .i64 (j : Int), u5, u6, u7, u8, u9, u10, u11, u12, u13, u14, u15, u16, u17, u18, u19, u20, u21, u22, u23, u24, u25, u26, u27, u28, u29, u30, u31, u32, u33, u34, u35, u36, u37], []⟩
set_option maxRecDepth 100000 in
set_option maxHeartbeats 8000000 in
theorem light_ok (hR : R3 Old w (.slice a n c) L)
    (hS : ∀ t, (t = true ↔ Light L) → Ok Try.prog Post Old m (G (b₀.at (a₀.put ((ops₀[i₀]?).bind (·.dst)) (.bool t)) (.inRegion ops₀ rest₀ :: k₀)) cs) w) :
    Ok Try.prog Post Old m (G ((base 8).at ⟨#[.slice a n c, undef, undef, undef, undef, undef, undef, undef, undef, undef, undef, undef, undef, undef, undef, undef, undef, undef, undef, undef, undef, undef, undef, undef, undef, undef, undef, undef, undef, undef, undef, undef, undef, undef, undef, undef, undef, undef], []⟩ [.code bodyLi]) ((b₀.at a₀ (.inRegion ops₀ (i₀ :: rest₀) :: k₀)) :: cs)) w := by
  obtain rfl := hR.len
  simp only [bodyLi, Try.f8, Option.getD_some]
  refine Ok.step rfl (fun _ h₁ => ?_)
  obtain ⟨d, rfl⟩ := h₁
  rw [stepG_seq]
  simp only [goes_go]
  refine ⟨ok_none _, Ok.at ?_⟩
  clear d
  refine Ok.step rfl (fun _ h₁ => ?_)
  obtain ⟨d, rfl⟩ := h₁
  rw [stepG_region]
  simp only [goes_go, List.size_toArray, List.length_cons, List.length_nil, Nat.reduceAdd, Nat.zero_add, List.range, List.range.loop]
  refine ⟨ok_none _, Ok.at ?_⟩
  clear d
  refine Ok.step rfl (fun _ h₁ => ?_)
  obtain ⟨d, rfl⟩ := h₁
  refine goes_oper_k rfl rfl (by decide) (fun K hK => ?_)
  go_simp
  refine hK _ _ ⟨⟨Nat.le_refl _, fun e he => ?_⟩, Ok.at ?_⟩
  · have hm := mem_listed he
    simp [go_sem] at hm
  clear hK K d
  refine Ok.step rfl (fun _ h₁ => ?_)
  obtain ⟨d, rfl⟩ := h₁
  rw [stepG_region_end]
  simp only [goes_go]
  refine ⟨ok_none _, Ok.at ?_⟩
  clear d
  refine Ok.step rfl (fun _ h₁ => ?_)
  obtain ⟨d, rfl⟩ := h₁
  rw [stepG_seq]
  simp only [goes_go]
  refine ⟨ok_none _, Ok.at ?_⟩
  clear d
  refine Ok.step rfl (fun _ h₁ => ?_)
  obtain ⟨d, rfl⟩ := h₁
  rw [stepG_seq]
  simp only [goes_go]
  refine ⟨ok_none _, Ok.at ?_⟩
  clear d
  refine Ok.step rfl (fun _ h₁ => ?_)
  obtain ⟨d, rfl⟩ := h₁
  rw [stepG_region]
  simp only [goes_go, List.size_toArray, List.length_cons, List.length_nil, Nat.reduceAdd, Nat.zero_add, List.range, List.range.loop]
  refine ⟨ok_none _, Ok.at ?_⟩
  clear d
  refine Ok.step rfl (fun _ h₁ => ?_)
  obtain ⟨d, rfl⟩ := h₁
  refine goes_oper_k rfl rfl (by decide) (fun K hK => ?_)
  go_simp
  refine hK _ _ ⟨⟨Nat.le_refl _, fun e he => ?_⟩, Ok.at ?_⟩
  · have hm := mem_listed he
    simp [go_sem] at hm
  clear hK K d
  refine Ok.step rfl (fun _ h₁ => ?_)
  obtain ⟨d, rfl⟩ := h₁
  refine goes_oper_k rfl rfl (by decide) (fun K hK => ?_)
  go_simp
  refine hK _ _ ⟨⟨Nat.le_refl _, fun e he => ?_⟩, Ok.at ?_⟩
  · have hm := mem_listed he
    simp [go_sem] at hm
  clear hK K d
  cases h6 : decide ((6 : Int) < (L.length : Int))
  ·
    have h6' : L.length ≤ 6 := by have := of_decide_eq_false h6; omega
    refine Ok.step rfl (fun _ h₁ => ?_)
    obtain ⟨d, rfl⟩ := h₁
    refine goes_oper_k rfl rfl (by decide) (fun K hK => ?_)
    have f0 := h6
    go_simp
    refine hK _ _ ⟨⟨Nat.le_refl _, fun e he => ?_⟩, Ok.at ?_⟩
    · have hm := mem_listed he
      simp [go_sem, f0] at hm
    clear hK K f0 d
    refine Ok.step rfl (fun _ h₁ => ?_)
    obtain ⟨d, rfl⟩ := h₁
    rw [stepG_region_end]
    simp only [goes_go]
    refine ⟨ok_none _, Ok.at ?_⟩
    clear d
    refine Ok.step rfl (fun _ h₁ => ?_)
    obtain ⟨d, rfl⟩ := h₁
    rw [stepG_cond (t := false) rfl]
    simp only [goes_go, if_true, if_false, Bool.false_eq_true, ↓reduceIte]
    refine ⟨ok_none _, Ok.at ?_⟩
    clear d
    refine Ok.step rfl (fun _ h₁ => ?_)
    obtain ⟨d, rfl⟩ := h₁
    rw [stepG_skip]
    simp only [goes_go]
    refine ⟨ok_none _, Ok.at ?_⟩
    clear d
    refine Ok.step rfl (fun _ h₁ => ?_)
    obtain ⟨d, rfl⟩ := h₁
    rw [stepG_seq]
    simp only [goes_go]
    refine ⟨ok_none _, Ok.at ?_⟩
    clear d
    refine Ok.step rfl (fun _ h₁ => ?_)
    obtain ⟨d, rfl⟩ := h₁
    rw [stepG_seq]
    simp only [goes_go]
    refine ⟨ok_none _, Ok.at ?_⟩
    clear d
    refine Ok.step rfl (fun _ h₁ => ?_)
    obtain ⟨d, rfl⟩ := h₁
    rw [stepG_region]
    simp only [goes_go, List.size_toArray, List.length_cons, List.length_nil, Nat.reduceAdd, Nat.zero_add, List.range, List.range.loop]
    refine ⟨ok_none _, Ok.at ?_⟩
    clear d
    refine Ok.step rfl (fun _ h₁ => ?_)
    obtain ⟨d, rfl⟩ := h₁
    refine goes_oper_k rfl rfl (by decide) (fun K hK => ?_)
    go_simp
    refine hK _ _ ⟨⟨Nat.le_refl _, fun e he => ?_⟩, Ok.at ?_⟩
    · have hm := mem_listed he
      simp [go_sem] at hm
    clear hK K d
    refine Ok.step rfl (fun _ h₁ => ?_)
    obtain ⟨d, rfl⟩ := h₁
    rw [stepG_region_end]
    simp only [goes_go]
    refine ⟨ok_none _, Ok.at ?_⟩
    clear d
    refine Ok.step rfl (fun _ h₁ => ?_)
    obtain ⟨d, rfl⟩ := h₁
    rw [stepG_block]
    simp only [goes_go]
    refine ⟨ok_none _, Ok.at ?_⟩
    clear d
    refine Ok.loop (InvL w a c L) (MuS L.length 3) ⟨0, _, _, _, _, _, _, _, _, _, _, _, _, _, _, _, _, _, _, _, _, _, _, _, _, _, _, _, _, _, _, _, _, _, _, _, _, Nat.zero_le _, fun row h => by simp at h, rfl, rfl⟩ ?_
    rintro _ _ ⟨i, u1, u2, u4, u5, u6, u7, u8, u9, u10, u11, u12, u13, u14, u15, u16, u17, u18, u19, u20, u21, u22, u23, u24, u25, u26, u27, u28, u29, u30, u31, u32, u33, u34, u35, u36, u37, hi, hI, rfl, rfl⟩ hN
    refine Ok.step rfl (fun _ h₁ => ?_)
    obtain ⟨d, rfl⟩ := h₁
    rw [stepG_seq]
    simp only [goes_go]
    refine ⟨ok_none _, Ok.at ?_⟩
    clear d
    refine Ok.step rfl (fun _ h₁ => ?_)
    obtain ⟨d, rfl⟩ := h₁
    rw [stepG_seq]
    simp only [goes_go]
    refine ⟨ok_none _, Ok.at ?_⟩
    clear d
    refine Ok.step rfl (fun _ h₁ => ?_)
    obtain ⟨d, rfl⟩ := h₁
    rw [stepG_region]
    simp only [goes_go, List.size_toArray, List.length_cons, List.length_nil, Nat.reduceAdd, Nat.zero_add, List.range, List.range.loop]
    refine ⟨ok_none _, Ok.at ?_⟩
    clear d
    refine Ok.step rfl (fun _ h₁ => ?_)
    obtain ⟨d, rfl⟩ := h₁
    refine goes_oper_k rfl rfl (by decide) (fun K hK => ?_)
    go_simp
    refine hK _ _ ⟨⟨Nat.le_refl _, fun e he => ?_⟩, Ok.at ?_⟩
    · have hm := mem_listed he
      simp [go_sem] at hm
    clear hK K d
    refine Ok.step rfl (fun _ h₁ => ?_)
    obtain ⟨d, rfl⟩ := h₁
    refine goes_oper_k rfl rfl (by decide) (fun K hK => ?_)
    go_simp
    refine hK _ _ ⟨⟨Nat.le_refl _, fun e he => ?_⟩, Ok.at ?_⟩
    · have hm := mem_listed he
      simp [go_sem] at hm
    clear hK K d
    refine Ok.step rfl (fun _ h₁ => ?_)
    obtain ⟨d, rfl⟩ := h₁
    refine goes_oper_k rfl rfl (by decide) (fun K hK => ?_)
    go_simp
    refine hK _ _ ⟨⟨Nat.le_refl _, fun e he => ?_⟩, Ok.at ?_⟩
    · have hm := mem_listed he
      simp [go_sem] at hm
    clear hK K d
    cases hlt : decide (i < L.length)
    ·
      have hge : L.length ≤ i := by have := of_decide_eq_false hlt; omega
      refine Ok.step rfl (fun _ h₁ => ?_)
      obtain ⟨d, rfl⟩ := h₁
      refine goes_oper_k rfl rfl (by decide) (fun K hK => ?_)
      have f0 := hlt
      go_simp
      refine hK _ _ ⟨⟨Nat.le_refl _, fun e he => ?_⟩, Ok.at ?_⟩
      · have hm := mem_listed he
        simp [go_sem, f0] at hm
      clear hK K f0 d
      refine Ok.step rfl (fun _ h₁ => ?_)
      obtain ⟨d, rfl⟩ := h₁
      rw [stepG_region_end]
      simp only [goes_go]
      refine ⟨ok_none _, Ok.at ?_⟩
      clear d
      refine Ok.step rfl (fun _ h₁ => ?_)
      obtain ⟨d, rfl⟩ := h₁
      rw [stepG_cond (t := false) rfl]
      simp only [goes_go, if_true, if_false, Bool.false_eq_true, ↓reduceIte]
      refine ⟨ok_none _, Ok.at ?_⟩
      clear d
      refine Ok.step rfl (fun _ h₁ => ?_)
      obtain ⟨d, rfl⟩ := h₁
      refine goes_exit rfl ?_
      refine ⟨ok_none _, Ok.at ?_⟩
      clear d
      refine Ok.step rfl (fun _ h₁ => ?_)
      obtain ⟨d, rfl⟩ := h₁
      rw [stepG_seq]
      simp only [goes_go]
      refine ⟨ok_none _, Ok.at ?_⟩
      clear d
      refine Ok.step rfl (fun _ h₁ => ?_)
      obtain ⟨d, rfl⟩ := h₁
      rw [stepG_region]
      simp only [goes_go, List.size_toArray, List.length_cons, List.length_nil, Nat.reduceAdd, Nat.zero_add, List.range, List.range.loop]
      refine ⟨ok_none _, Ok.at ?_⟩
      clear d
      refine Ok.step rfl (fun _ h₁ => ?_)
      obtain ⟨d, rfl⟩ := h₁
      refine goes_oper_k rfl rfl (by decide) (fun K hK => ?_)
      go_simp
      refine hK _ _ ⟨⟨Nat.le_refl _, fun e he => ?_⟩, Ok.at ?_⟩
      · have hm := mem_listed he
        simp [go_sem] at hm
      clear hK K d
      refine Ok.step rfl (fun _ h₁ => ?_)
      obtain ⟨d, rfl⟩ := h₁
      rw [stepG_region_end]
      simp only [goes_go]
      refine ⟨ok_none _, Ok.at ?_⟩
      clear d
      refine Ok.step rfl (fun _ h₁ => ?_)
      obtain ⟨d, rfl⟩ := h₁
      rw [stepG_ret']
      simp only [goes_go]
      refine ⟨ok_none _, Ok.at ?_⟩
      clear d
      refine Ok.step rfl (fun _ h₁ => ?_)
      obtain ⟨d, rfl⟩ := h₁
      refine goes_leave1 rfl rfl Try.func8 rfl ⟨ok_none _, Ok.at ?_⟩
      clear d
      walk_nrm
      rw [List.take_of_length_le hge] at hI
      exact hS true ⟨fun _ => ⟨h6', hI⟩, fun _ => rfl⟩
    ·
      have hlt' : i < L.length := by have := of_decide_eq_true hlt; omega
      obtain ⟨M, hM⟩ : ∃ M, L[i]? = some M := ⟨_, List.getElem?_eq_getElem hlt'⟩
      obtain ⟨b, off, ra, rc, ha, hb, ho, hc, hR2⟩ := hR.at hM
      subst ha
      have q2 : (0 : Int) ≤ (i : Int) ∧ (i : Int) < (L.length : Int) := ⟨by omega, by omega⟩
      refine Ok.step rfl (fun _ h₁ => ?_)
      obtain ⟨d, rfl⟩ := h₁
      refine goes_oper_k rfl rfl (by decide) (fun K hK => ?_)
      have f0 := hlt
      go_simp
      refine hK _ _ ⟨⟨Nat.le_refl _, fun e he => ?_⟩, Ok.at ?_⟩
      · have hm := mem_listed he
        simp [go_sem, f0] at hm
      clear hK K f0 d
      refine Ok.step rfl (fun _ h₁ => ?_)
      obtain ⟨d, rfl⟩ := h₁
      rw [stepG_region_end]
      simp only [goes_go]
      refine ⟨ok_none _, Ok.at ?_⟩
      clear d
      refine Ok.step rfl (fun _ h₁ => ?_)
      obtain ⟨d, rfl⟩ := h₁
      rw [stepG_cond (t := true) rfl]
      simp only [goes_go, if_true, if_false, Bool.false_eq_true, ↓reduceIte]
      refine ⟨ok_none _, Ok.at ?_⟩
      clear d
      refine Ok.step rfl (fun _ h₁ => ?_)
      obtain ⟨d, rfl⟩ := h₁
      rw [stepG_skip]
      simp only [goes_go]
      refine ⟨ok_none _, Ok.at ?_⟩
      clear d
      refine Ok.step rfl (fun _ h₁ => ?_)
      obtain ⟨d, rfl⟩ := h₁
      rw [stepG_seq]
      simp only [goes_go]
      refine ⟨ok_none _, Ok.at ?_⟩
      clear d
      refine Ok.step rfl (fun _ h₁ => ?_)
      obtain ⟨d, rfl⟩ := h₁
      rw [stepG_block]
      simp only [goes_go]
      refine ⟨ok_none _, Ok.at ?_⟩
      clear d
      refine Ok.step rfl (fun _ h₁ => ?_)
      obtain ⟨d, rfl⟩ := h₁
      rw [stepG_seq]
      simp only [goes_go]
      refine ⟨ok_none _, Ok.at ?_⟩
      clear d
      refine Ok.step rfl (fun _ h₁ => ?_)
      obtain ⟨d, rfl⟩ := h₁
      rw [stepG_seq]
      simp only [goes_go]
      refine ⟨ok_none _, Ok.at ?_⟩
      clear d
      refine Ok.step rfl (fun _ h₁ => ?_)
      obtain ⟨d, rfl⟩ := h₁
      rw [stepG_region]
      simp only [goes_go, List.size_toArray, List.length_cons, List.length_nil, Nat.reduceAdd, Nat.zero_add, List.range, List.range.loop]
      refine ⟨ok_none _, Ok.at ?_⟩
      clear d
      refine Ok.step rfl (fun _ h₁ => ?_)
      obtain ⟨d, rfl⟩ := h₁
      refine goes_oper_k rfl rfl (by decide) (fun K hK => ?_)
      go_simp
      refine hK _ _ ⟨⟨Nat.le_refl _, fun e he => ?_⟩, Ok.at ?_⟩
      · have hm := mem_listed he
        simp [go_sem] at hm
      clear hK K d
      refine Ok.step rfl (fun _ h₁ => ?_)
      obtain ⟨d, rfl⟩ := h₁
      refine goes_oper_k rfl rfl (by decide) (fun K hK => ?_)
      go_simp
      refine hK _ _ ⟨⟨Nat.le_refl _, fun e he => ?_⟩, Ok.at ?_⟩
      · have hm := mem_listed he
        simp [go_sem] at hm
      clear hK K d
      refine Ok.step rfl (fun _ h₁ => ?_)
      obtain ⟨d, rfl⟩ := h₁
      refine goes_oper_k rfl rfl (by decide) (fun K hK => ?_)
      have f0 := q2
      go_simp
      refine hK _ _ ⟨⟨Nat.le_refl _, fun e he => ?_⟩, Ok.at ?_⟩
      · have hm := mem_listed he
        simp [go_sem, f0] at hm
      clear hK K f0 d
      refine Ok.step rfl (fun _ h₁ => ?_)
      obtain ⟨d, rfl⟩ := h₁
      refine goes_oper_k rfl rfl (by decide) (fun K hK => ?_)
      have f0 : (w.at d).cell? ⟨b, off + i, none⟩ = some (.slice ra M.length rc) := hc
      go_simp
      refine hK _ _ ⟨⟨Nat.le_refl _, fun e he => ?_⟩, Ok.at ?_⟩
      · have hm := mem_listed he
        simp [go_sem, f0] at hm
        subst hm
        exact evO_cell hb ho
      clear hK K f0 d
      refine Ok.step rfl (fun _ h₁ => ?_)
      obtain ⟨d, rfl⟩ := h₁
      refine goes_oper_k rfl rfl (by decide) (fun K hK => ?_)
      go_simp
      refine hK _ _ ⟨⟨Nat.le_refl _, fun e he => ?_⟩, Ok.at ?_⟩
      · have hm := mem_listed he
        simp [go_sem] at hm
      clear hK K d
      cases h8 : decide ((8 : Int) < (M.length : Int))
      ·
        have h8' : M.length ≤ 8 := by have := of_decide_eq_false h8; omega
        refine Ok.step rfl (fun _ h₁ => ?_)
        obtain ⟨d, rfl⟩ := h₁
        refine goes_oper_k rfl rfl (by decide) (fun K hK => ?_)
        have f0 := h8
        go_simp
        refine hK _ _ ⟨⟨Nat.le_refl _, fun e he => ?_⟩, Ok.at ?_⟩
        · have hm := mem_listed he
          simp [go_sem, f0] at hm
        clear hK K f0 d
        refine Ok.step rfl (fun _ h₁ => ?_)
        obtain ⟨d, rfl⟩ := h₁
        rw [stepG_region_end]
        simp only [goes_go]
        refine ⟨ok_none _, Ok.at ?_⟩
        clear d
        refine Ok.step rfl (fun _ h₁ => ?_)
        obtain ⟨d, rfl⟩ := h₁
        rw [stepG_cond (t := false) rfl]
        simp only [goes_go, if_true, if_false, Bool.false_eq_true, ↓reduceIte]
        refine ⟨ok_none _, Ok.at ?_⟩
        clear d
        refine Ok.step rfl (fun _ h₁ => ?_)
        obtain ⟨d, rfl⟩ := h₁
        rw [stepG_skip]
        simp only [goes_go]
        refine ⟨ok_none _, Ok.at ?_⟩
        clear d
        refine Ok.step rfl (fun _ h₁ => ?_)
        obtain ⟨d, rfl⟩ := h₁
        rw [stepG_seq]
        simp only [goes_go]
        refine ⟨ok_none _, Ok.at ?_⟩
        clear d
        refine Ok.step rfl (fun _ h₁ => ?_)
        obtain ⟨d, rfl⟩ := h₁
        rw [stepG_region]
        simp only [goes_go, List.size_toArray, List.length_cons, List.length_nil, Nat.reduceAdd, Nat.zero_add, List.range, List.range.loop]
        refine ⟨ok_none _, Ok.at ?_⟩
        clear d
        refine Ok.step rfl (fun _ h₁ => ?_)
        obtain ⟨d, rfl⟩ := h₁
        refine goes_oper_k rfl rfl (by decide) (fun K hK => ?_)
        go_simp
        refine hK _ _ ⟨⟨Nat.le_refl _, fun e he => ?_⟩, Ok.at ?_⟩
        · have hm := mem_listed he
          simp [go_sem] at hm
        clear hK K d
        refine Ok.step rfl (fun _ h₁ => ?_)
        obtain ⟨d, rfl⟩ := h₁
        rw [stepG_region_end]
        simp only [goes_go]
        refine ⟨ok_none _, Ok.at ?_⟩
        clear d
        refine Ok.step rfl (fun _ h₁ => ?_)
        obtain ⟨d, rfl⟩ := h₁
        rw [stepG_block]
        simp only [goes_go]
        refine ⟨ok_none _, Ok.at ?_⟩
        clear d
        refine Ok.loop (InvL2 w (some ⟨b, off, none⟩) c L i M) (MuS M.length 4) ⟨0, _, _, _, _, _, _, _, _, _, _, _, _, _, _, _, _, _, _, _, _, _, _, _, _, _, _, _, _, _, _, _, _, _, _, _, Nat.zero_le _, fun row h => by simp at h, rfl, rfl⟩ ?_
        rintro _ _ ⟨j, v1, v2, v5, v6, v7, v8, v9, v10, v11, v12, v13, v14, v15, v16, v17, v18, v19, v20, v21, v22, v23, v24, v25, v26, v27, v28, v29, v30, v31, v32, v33, v34, v35, v36, v37, hj, hJ, rfl, rfl⟩ hN2
        refine Ok.step rfl (fun _ h₁ => ?_)
        obtain ⟨d, rfl⟩ := h₁
        rw [stepG_seq]
        simp only [goes_go]
        refine ⟨ok_none _, Ok.at ?_⟩
        clear d
        refine Ok.step rfl (fun _ h₁ => ?_)
        obtain ⟨d, rfl⟩ := h₁
        rw [stepG_seq]
        simp only [goes_go]
        refine ⟨ok_none _, Ok.at ?_⟩
        clear d
        refine Ok.step rfl (fun _ h₁ => ?_)
        obtain ⟨d, rfl⟩ := h₁
        rw [stepG_region]
        simp only [goes_go, List.size_toArray, List.length_cons, List.length_nil, Nat.reduceAdd, Nat.zero_add, List.range, List.range.loop]
        refine ⟨ok_none _, Ok.at ?_⟩
        clear d
        refine Ok.step rfl (fun _ h₁ => ?_)
        obtain ⟨d, rfl⟩ := h₁
        refine goes_oper_k rfl rfl (by decide) (fun K hK => ?_)
        go_simp
        refine hK _ _ ⟨⟨Nat.le_refl _, fun e he => ?_⟩, Ok.at ?_⟩
        · have hm := mem_listed he
          simp [go_sem] at hm
        clear hK K d
        refine Ok.step rfl (fun _ h₁ => ?_)
        obtain ⟨d, rfl⟩ := h₁
        refine goes_oper_k rfl rfl (by decide) (fun K hK => ?_)
        go_simp
        refine hK _ _ ⟨⟨Nat.le_refl _, fun e he => ?_⟩, Ok.at ?_⟩
        · have hm := mem_listed he
          simp [go_sem] at hm
        clear hK K d
        refine Ok.step rfl (fun _ h₁ => ?_)
        obtain ⟨d, rfl⟩ := h₁
        refine goes_oper_k rfl rfl (by decide) (fun K hK => ?_)
        go_simp
        refine hK _ _ ⟨⟨Nat.le_refl _, fun e he => ?_⟩, Ok.at ?_⟩
        · have hm := mem_listed he
          simp [go_sem] at hm
        clear hK K d
        refine Ok.step rfl (fun _ h₁ => ?_)
        obtain ⟨d, rfl⟩ := h₁
        refine goes_oper_k rfl rfl (by decide) (fun K hK => ?_)
        have f0 := q2
        go_simp
        refine hK _ _ ⟨⟨Nat.le_refl _, fun e he => ?_⟩, Ok.at ?_⟩
        · have hm := mem_listed he
          simp [go_sem, f0] at hm
        clear hK K f0 d
        refine Ok.step rfl (fun _ h₁ => ?_)
        obtain ⟨d, rfl⟩ := h₁
        refine goes_oper_k rfl rfl (by decide) (fun K hK => ?_)
        have f0 : (w.at d).cell? ⟨b, off + i, none⟩ = some (.slice ra M.length rc) := hc
        go_simp
        refine hK _ _ ⟨⟨Nat.le_refl _, fun e he => ?_⟩, Ok.at ?_⟩
        · have hm := mem_listed he
          simp [go_sem, f0] at hm
          subst hm
          exact evO_cell hb ho
        clear hK K f0 d
        refine Ok.step rfl (fun _ h₁ => ?_)
        obtain ⟨d, rfl⟩ := h₁
        refine goes_oper_k rfl rfl (by decide) (fun K hK => ?_)
        go_simp
        refine hK _ _ ⟨⟨Nat.le_refl _, fun e he => ?_⟩, Ok.at ?_⟩
        · have hm := mem_listed he
          simp [go_sem] at hm
        clear hK K d
        cases hlt2 : decide (j < M.length)
        ·
          have hge2 : M.length ≤ j := by have := of_decide_eq_false hlt2; omega
          rw [List.take_of_length_le hge2] at hJ
          refine Ok.step rfl (fun _ h₁ => ?_)
          obtain ⟨d, rfl⟩ := h₁
          refine goes_oper_k rfl rfl (by decide) (fun K hK => ?_)
          have f0 := hlt2
          go_simp
          refine hK _ _ ⟨⟨Nat.le_refl _, fun e he => ?_⟩, Ok.at ?_⟩
          · have hm := mem_listed he
            simp [go_sem, f0] at hm
          clear hK K f0 d
          refine Ok.step rfl (fun _ h₁ => ?_)
          obtain ⟨d, rfl⟩ := h₁
          rw [stepG_region_end]
          simp only [goes_go]
          refine ⟨ok_none _, Ok.at ?_⟩
          clear d
          refine Ok.step rfl (fun _ h₁ => ?_)
          obtain ⟨d, rfl⟩ := h₁
          rw [stepG_cond (t := false) rfl]
          simp only [goes_go, if_true, if_false, Bool.false_eq_true, ↓reduceIte]
          refine ⟨ok_none _, Ok.at ?_⟩
          clear d
          refine Ok.step rfl (fun _ h₁ => ?_)
          obtain ⟨d, rfl⟩ := h₁
          refine goes_exit rfl ?_
          refine ⟨ok_none _, Ok.at ?_⟩
          clear d
          refine Ok.step rfl (fun _ h₁ => ?_)
          obtain ⟨d, rfl⟩ := h₁
          rw [stepG_inBlock]
          simp only [goes_go]
          refine ⟨ok_none _, Ok.at ?_⟩
          clear d
          refine Ok.step rfl (fun _ h₁ => ?_)
          obtain ⟨d, rfl⟩ := h₁
          rw [stepG_region]
          simp only [goes_go, List.size_toArray, List.length_cons, List.length_nil, Nat.reduceAdd, Nat.zero_add, List.range, List.range.loop]
          refine ⟨ok_none _, Ok.at ?_⟩
          clear d
          refine Ok.step rfl (fun _ h₁ => ?_)
          obtain ⟨d, rfl⟩ := h₁
          refine goes_oper_k rfl rfl (by decide) (fun K hK => ?_)
          go_simp
          refine hK _ _ ⟨⟨Nat.le_refl _, fun e he => ?_⟩, Ok.at ?_⟩
          · have hm := mem_listed he
            simp [go_sem] at hm
          clear hK K d
          have q5 := wrap_succ (i := i) (by omega)
          refine Ok.step rfl (fun _ h₁ => ?_)
          obtain ⟨d, rfl⟩ := h₁
          refine goes_oper_k rfl rfl (by decide) (fun K hK => ?_)
          have f0 := q5
          go_simp
          refine hK _ _ ⟨⟨Nat.le_refl _, fun e he => ?_⟩, Ok.at ?_⟩
          · have hm := mem_listed he
            simp [go_sem, f0] at hm
          clear hK K f0 d
          refine Ok.step rfl (fun _ h₁ => ?_)
          obtain ⟨d, rfl⟩ := h₁
          refine goes_oper_k rfl rfl (by decide) (fun K hK => ?_)
          go_simp
          refine hK _ _ ⟨⟨Nat.le_refl _, fun e he => ?_⟩, Ok.at ?_⟩
          · have hm := mem_listed he
            simp [go_sem] at hm
          clear hK K d
          refine Ok.step rfl (fun _ h₁ => ?_)
          obtain ⟨d, rfl⟩ := h₁
          rw [stepG_region_end]
          simp only [goes_go]
          refine ⟨ok_none _, Ok.at ?_⟩
          clear d
          exact hN _ _ ⟨i + 1, _, _, _, _, _, _, _, _, _, _, _, _, _, _, _, _, _, _, _, _, _, _, _, _, _, _, _, _, _, _, _, _, _, _, _, _, by omega, take_all hI hM ⟨h8', fun bs hb => hJ bs hb⟩, rfl, rfl⟩ (by simp [MuS]; omega)
        ·
          have hlt2' : j < M.length := by have := of_decide_eq_true hlt2; omega
          obtain ⟨bs, hB⟩ : ∃ bs, M[j]? = some bs := ⟨_, List.getElem?_eq_getElem hlt2'⟩
          obtain ⟨b2, off2, ra2, rc2, ha2, hb2, ho2, hc2, hR1⟩ := hR2.at hB
          subst ha2
          have q3 : (0 : Int) ≤ (j : Int) ∧ (j : Int) < (M.length : Int) := ⟨by omega, by omega⟩
          refine Ok.step rfl (fun _ h₁ => ?_)
          obtain ⟨d, rfl⟩ := h₁
          refine goes_oper_k rfl rfl (by decide) (fun K hK => ?_)
          have f0 := hlt2
          go_simp
          refine hK _ _ ⟨⟨Nat.le_refl _, fun e he => ?_⟩, Ok.at ?_⟩
          · have hm := mem_listed he
            simp [go_sem, f0] at hm
          clear hK K f0 d
          refine Ok.step rfl (fun _ h₁ => ?_)
          obtain ⟨d, rfl⟩ := h₁
          rw [stepG_region_end]
          simp only [goes_go]
          refine ⟨ok_none _, Ok.at ?_⟩
          clear d
          refine Ok.step rfl (fun _ h₁ => ?_)
          obtain ⟨d, rfl⟩ := h₁
          rw [stepG_cond (t := true) rfl]
          simp only [goes_go, if_true, if_false, Bool.false_eq_true, ↓reduceIte]
          refine ⟨ok_none _, Ok.at ?_⟩
          clear d
          refine Ok.step rfl (fun _ h₁ => ?_)
          obtain ⟨d, rfl⟩ := h₁
          rw [stepG_skip]
          simp only [goes_go]
          refine ⟨ok_none _, Ok.at ?_⟩
          clear d
          refine Ok.step rfl (fun _ h₁ => ?_)
          obtain ⟨d, rfl⟩ := h₁
          rw [stepG_seq]
          simp only [goes_go]
          refine ⟨ok_none _, Ok.at ?_⟩
          clear d
          refine Ok.step rfl (fun _ h₁ => ?_)
          obtain ⟨d, rfl⟩ := h₁
          rw [stepG_block]
          simp only [goes_go]
          refine ⟨ok_none _, Ok.at ?_⟩
          clear d
          refine Ok.step rfl (fun _ h₁ => ?_)
          obtain ⟨d, rfl⟩ := h₁
          rw [stepG_seq]
          simp only [goes_go]
          refine ⟨ok_none _, Ok.at ?_⟩
          clear d
          refine Ok.step rfl (fun _ h₁ => ?_)
          obtain ⟨d, rfl⟩ := h₁
          rw [stepG_region]
          simp only [goes_go, List.size_toArray, List.length_cons, List.length_nil, Nat.reduceAdd, Nat.zero_add, List.range, List.range.loop]
          refine ⟨ok_none _, Ok.at ?_⟩
          clear d
          refine Ok.step rfl (fun _ h₁ => ?_)
          obtain ⟨d, rfl⟩ := h₁
          refine goes_oper_k rfl rfl (by decide) (fun K hK => ?_)
          go_simp
          refine hK _ _ ⟨⟨Nat.le_refl _, fun e he => ?_⟩, Ok.at ?_⟩
          · have hm := mem_listed he
            simp [go_sem] at hm
          clear hK K d
          refine Ok.step rfl (fun _ h₁ => ?_)
          obtain ⟨d, rfl⟩ := h₁
          refine goes_oper_k rfl rfl (by decide) (fun K hK => ?_)
          go_simp
          refine hK _ _ ⟨⟨Nat.le_refl _, fun e he => ?_⟩, Ok.at ?_⟩
          · have hm := mem_listed he
            simp [go_sem] at hm
          clear hK K d
          refine Ok.step rfl (fun _ h₁ => ?_)
          obtain ⟨d, rfl⟩ := h₁
          refine goes_oper_k rfl rfl (by decide) (fun K hK => ?_)
          have f0 := q2
          go_simp
          refine hK _ _ ⟨⟨Nat.le_refl _, fun e he => ?_⟩, Ok.at ?_⟩
          · have hm := mem_listed he
            simp [go_sem, f0] at hm
          clear hK K f0 d
          refine Ok.step rfl (fun _ h₁ => ?_)
          obtain ⟨d, rfl⟩ := h₁
          refine goes_oper_k rfl rfl (by decide) (fun K hK => ?_)
          have f0 : (w.at d).cell? ⟨b, off + i, none⟩ = some (.slice (some ⟨b2, off2, none⟩) M.length rc) := hc
          go_simp
          refine hK _ _ ⟨⟨Nat.le_refl _, fun e he => ?_⟩, Ok.at ?_⟩
          · have hm := mem_listed he
            simp [go_sem, f0] at hm
            subst hm
            exact evO_cell hb ho
          clear hK K f0 d
          refine Ok.step rfl (fun _ h₁ => ?_)
          obtain ⟨d, rfl⟩ := h₁
          refine goes_oper_k rfl rfl (by decide) (fun K hK => ?_)
          go_simp
          refine hK _ _ ⟨⟨Nat.le_refl _, fun e he => ?_⟩, Ok.at ?_⟩
          · have hm := mem_listed he
            simp [go_sem] at hm
          clear hK K d
          refine Ok.step rfl (fun _ h₁ => ?_)
          obtain ⟨d, rfl⟩ := h₁
          refine goes_oper_k rfl rfl (by decide) (fun K hK => ?_)
          have f0 := q3
          go_simp
          refine hK _ _ ⟨⟨Nat.le_refl _, fun e he => ?_⟩, Ok.at ?_⟩
          · have hm := mem_listed he
            simp [go_sem, f0] at hm
          clear hK K f0 d
          refine Ok.step rfl (fun _ h₁ => ?_)
          obtain ⟨d, rfl⟩ := h₁
          refine goes_oper_k rfl rfl (by decide) (fun K hK => ?_)
          have f0 : (w.at d).cell? ⟨b2, off2 + j, none⟩ = some (.slice ra2 bs.length rc2) := hc2
          go_simp
          refine hK _ _ ⟨⟨Nat.le_refl _, fun e he => ?_⟩, Ok.at ?_⟩
          · have hm := mem_listed he
            simp [go_sem, f0] at hm
            subst hm
            exact evO_cell hb2 ho2
          clear hK K f0 d
          refine Ok.step rfl (fun _ h₁ => ?_)
          obtain ⟨d, rfl⟩ := h₁
          refine goes_oper_k rfl rfl (by decide) (fun K hK => ?_)
          go_simp
          refine hK _ _ ⟨⟨Nat.le_refl _, fun e he => ?_⟩, Ok.at ?_⟩
          · have hm := mem_listed he
            simp [go_sem] at hm
          clear hK K d
          cases h20 : decide ((20 : Int) < (bs.length : Int))
          ·
            have h20' : bs.length ≤ 20 := by have := of_decide_eq_false h20; omega
            refine Ok.step rfl (fun _ h₁ => ?_)
            obtain ⟨d, rfl⟩ := h₁
            refine goes_oper_k rfl rfl (by decide) (fun K hK => ?_)
            have f0 := h20
            go_simp
            refine hK _ _ ⟨⟨Nat.le_refl _, fun e he => ?_⟩, Ok.at ?_⟩
            · have hm := mem_listed he
              simp [go_sem, f0] at hm
            clear hK K f0 d
            refine Ok.step rfl (fun _ h₁ => ?_)
            obtain ⟨d, rfl⟩ := h₁
            rw [stepG_region_end]
            simp only [goes_go]
            refine ⟨ok_none _, Ok.at ?_⟩
            clear d
            refine Ok.step rfl (fun _ h₁ => ?_)
            obtain ⟨d, rfl⟩ := h₁
            rw [stepG_cond (t := false) rfl]
            simp only [goes_go, if_true, if_false, Bool.false_eq_true, ↓reduceIte]
            refine ⟨ok_none _, Ok.at ?_⟩
            clear d
            refine Ok.step rfl (fun _ h₁ => ?_)
            obtain ⟨d, rfl⟩ := h₁
            rw [stepG_skip]
            simp only [goes_go]
            refine ⟨ok_none _, Ok.at ?_⟩
            clear d
            refine Ok.step rfl (fun _ h₁ => ?_)
            obtain ⟨d, rfl⟩ := h₁
            rw [stepG_inBlock]
            simp only [goes_go]
            refine ⟨ok_none _, Ok.at ?_⟩
            clear d
            refine Ok.step rfl (fun _ h₁ => ?_)
            obtain ⟨d, rfl⟩ := h₁
            rw [stepG_region]
            simp only [goes_go, List.size_toArray, List.length_cons, List.length_nil, Nat.reduceAdd, Nat.zero_add, List.range, List.range.loop]
            refine ⟨ok_none _, Ok.at ?_⟩
            clear d
            refine Ok.step rfl (fun _ h₁ => ?_)
            obtain ⟨d, rfl⟩ := h₁
            refine goes_oper_k rfl rfl (by decide) (fun K hK => ?_)
            go_simp
            refine hK _ _ ⟨⟨Nat.le_refl _, fun e he => ?_⟩, Ok.at ?_⟩
            · have hm := mem_listed he
              simp [go_sem] at hm
            clear hK K d
            have q4 := wrap_succ (i := j) (by omega)
            refine Ok.step rfl (fun _ h₁ => ?_)
            obtain ⟨d, rfl⟩ := h₁
            refine goes_oper_k rfl rfl (by decide) (fun K hK => ?_)
            have f0 := q4
            go_simp
            refine hK _ _ ⟨⟨Nat.le_refl _, fun e he => ?_⟩, Ok.at ?_⟩
            · have hm := mem_listed he
              simp [go_sem, f0] at hm
            clear hK K f0 d
            refine Ok.step rfl (fun _ h₁ => ?_)
            obtain ⟨d, rfl⟩ := h₁
            refine goes_oper_k rfl rfl (by decide) (fun K hK => ?_)
            go_simp
            refine hK _ _ ⟨⟨Nat.le_refl _, fun e he => ?_⟩, Ok.at ?_⟩
            · have hm := mem_listed he
              simp [go_sem] at hm
            clear hK K d
            refine Ok.step rfl (fun _ h₁ => ?_)
            obtain ⟨d, rfl⟩ := h₁
            rw [stepG_region_end]
            simp only [goes_go]
            refine ⟨ok_none _, Ok.at ?_⟩
            clear d
            exact hN2 _ _ ⟨j + 1, _, _, _, _, _, _, _, _, _, _, _, _, _, _, _, _, _, _, _, _, _, _, _, _, _, _, _, _, _, _, _, _, _, _, _, by omega, take_all hJ hB h20', rfl, rfl⟩ (by simp [MuS]; omega)
          ·
            have h20' : ¬ bs.length ≤ 20 := by have := of_decide_eq_true h20; omega
            refine Ok.step rfl (fun _ h₁ => ?_)
            obtain ⟨d, rfl⟩ := h₁
            refine goes_oper_k rfl rfl (by decide) (fun K hK => ?_)
            have f0 := h20
            go_simp
            refine hK _ _ ⟨⟨Nat.le_refl _, fun e he => ?_⟩, Ok.at ?_⟩
            · have hm := mem_listed he
              simp [go_sem, f0] at hm
            clear hK K f0 d
            refine Ok.step rfl (fun _ h₁ => ?_)
            obtain ⟨d, rfl⟩ := h₁
            rw [stepG_region_end]
            simp only [goes_go]
            refine ⟨ok_none _, Ok.at ?_⟩
            clear d
            refine Ok.step rfl (fun _ h₁ => ?_)
            obtain ⟨d, rfl⟩ := h₁
            rw [stepG_cond (t := true) rfl]
            simp only [goes_go, if_true, if_false, Bool.false_eq_true, ↓reduceIte]
            refine ⟨ok_none _, Ok.at ?_⟩
            clear d
            refine Ok.step rfl (fun _ h₁ => ?_)
            obtain ⟨d, rfl⟩ := h₁
            rw [stepG_seq]
            simp only [goes_go]
            refine ⟨ok_none _, Ok.at ?_⟩
            clear d
            refine Ok.step rfl (fun _ h₁ => ?_)
            obtain ⟨d, rfl⟩ := h₁
            rw [stepG_region]
            simp only [goes_go, List.size_toArray, List.length_cons, List.length_nil, Nat.reduceAdd, Nat.zero_add, List.range, List.range.loop]
            refine ⟨ok_none _, Ok.at ?_⟩
            clear d
            refine Ok.step rfl (fun _ h₁ => ?_)
            obtain ⟨d, rfl⟩ := h₁
            refine goes_oper_k rfl rfl (by decide) (fun K hK => ?_)
            go_simp
            refine hK _ _ ⟨⟨Nat.le_refl _, fun e he => ?_⟩, Ok.at ?_⟩
            · have hm := mem_listed he
              simp [go_sem] at hm
            clear hK K d
            refine Ok.step rfl (fun _ h₁ => ?_)
            obtain ⟨d, rfl⟩ := h₁
            rw [stepG_region_end]
            simp only [goes_go]
            refine ⟨ok_none _, Ok.at ?_⟩
            clear d
            refine Ok.step rfl (fun _ h₁ => ?_)
            obtain ⟨d, rfl⟩ := h₁
            rw [stepG_ret']
            simp only [goes_go]
            refine ⟨ok_none _, Ok.at ?_⟩
            clear d
            refine Ok.step rfl (fun _ h₁ => ?_)
            obtain ⟨d, rfl⟩ := h₁
            refine goes_leave1 rfl rfl Try.func8 rfl ⟨ok_none _, Ok.at ?_⟩
            clear d
            walk_nrm
            exact hS false ⟨fun h => (by cases h), fun h => absurd ((h.2 M (List.mem_of_getElem? hM)).2 bs (List.mem_of_getElem? hB)) h20'⟩
      ·
        have h8' : ¬ M.length ≤ 8 := by have := of_decide_eq_true h8; omega
        refine Ok.step rfl (fun _ h₁ => ?_)
        obtain ⟨d, rfl⟩ := h₁
        refine goes_oper_k rfl rfl (by decide) (fun K hK => ?_)
        have f0 := h8
        go_simp
        refine hK _ _ ⟨⟨Nat.le_refl _, fun e he => ?_⟩, Ok.at ?_⟩
        · have hm := mem_listed he
          simp [go_sem, f0] at hm
        clear hK K f0 d
        refine Ok.step rfl (fun _ h₁ => ?_)
        obtain ⟨d, rfl⟩ := h₁
        rw [stepG_region_end]
        simp only [goes_go]
        refine ⟨ok_none _, Ok.at ?_⟩
        clear d
        refine Ok.step rfl (fun _ h₁ => ?_)
        obtain ⟨d, rfl⟩ := h₁
        rw [stepG_cond (t := true) rfl]
        simp only [goes_go, if_true, if_false, Bool.false_eq_true, ↓reduceIte]
        refine ⟨ok_none _, Ok.at ?_⟩
        clear d
        refine Ok.step rfl (fun _ h₁ => ?_)
        obtain ⟨d, rfl⟩ := h₁
        rw [stepG_seq]
        simp only [goes_go]
        refine ⟨ok_none _, Ok.at ?_⟩
        clear d
        refine Ok.step rfl (fun _ h₁ => ?_)
        obtain ⟨d, rfl⟩ := h₁
        rw [stepG_region]
        simp only [goes_go, List.size_toArray, List.length_cons, List.length_nil, Nat.reduceAdd, Nat.zero_add, List.range, List.range.loop]
        refine ⟨ok_none _, Ok.at ?_⟩
        clear d
        refine Ok.step rfl (fun _ h₁ => ?_)
        obtain ⟨d, rfl⟩ := h₁
        refine goes_oper_k rfl rfl (by decide) (fun K hK => ?_)
        go_simp
        refine hK _ _ ⟨⟨Nat.le_refl _, fun e he => ?_⟩, Ok.at ?_⟩
        · have hm := mem_listed he
          simp [go_sem] at hm
        clear hK K d
        refine Ok.step rfl (fun _ h₁ => ?_)
        obtain ⟨d, rfl⟩ := h₁
        rw [stepG_region_end]
        simp only [goes_go]
        refine ⟨ok_none _, Ok.at ?_⟩
        clear d
        refine Ok.step rfl (fun _ h₁ => ?_)
        obtain ⟨d, rfl⟩ := h₁
        rw [stepG_ret']
        simp only [goes_go]
        refine ⟨ok_none _, Ok.at ?_⟩
        clear d
        refine Ok.step rfl (fun _ h₁ => ?_)
        obtain ⟨d, rfl⟩ := h₁
        refine goes_leave1 rfl rfl Try.func8 rfl ⟨ok_none _, Ok.at ?_⟩
        clear d
        walk_nrm
        exact hS false ⟨fun h => (by cases h), fun h => absurd (h.2 M (List.mem_of_getElem? hM)).1 h8'⟩
  ·
    have h6' : ¬ L.length ≤ 6 := by have := of_decide_eq_true h6; omega
    refine Ok.step rfl (fun _ h₁ => ?_)
    obtain ⟨d, rfl⟩ := h₁
    refine goes_oper_k rfl rfl (by decide) (fun K hK => ?_)
    have f0 := h6
    go_simp
    refine hK _ _ ⟨⟨Nat.le_refl _, fun e he => ?_⟩, Ok.at ?_⟩
    · have hm := mem_listed he
      simp [go_sem, f0] at hm
    clear hK K f0 d
    refine Ok.step rfl (fun _ h₁ => ?_)
    obtain ⟨d, rfl⟩ := h₁
    rw [stepG_region_end]
    simp only [goes_go]
    refine ⟨ok_none _, Ok.at ?_⟩
    clear d
    refine Ok.step rfl (fun _ h₁ => ?_)
    obtain ⟨d, rfl⟩ := h₁
    rw [stepG_cond (t := true) rfl]
    simp only [goes_go, if_true, if_false, Bool.false_eq_true, ↓reduceIte]
    refine ⟨ok_none _, Ok.at ?_⟩
    clear d
    refine Ok.step rfl (fun _ h₁ => ?_)
    obtain ⟨d, rfl⟩ := h₁
    rw [stepG_seq]
    simp only [goes_go]
    refine ⟨ok_none _, Ok.at ?_⟩
    clear d
    refine Ok.step rfl (fun _ h₁ => ?_)
    obtain ⟨d, rfl⟩ := h₁
    rw [stepG_region]
    simp only [goes_go, List.size_toArray, List.length_cons, List.length_nil, Nat.reduceAdd, Nat.zero_add, List.range, List.range.loop]
    refine ⟨ok_none _, Ok.at ?_⟩
    clear d
    refine Ok.step rfl (fun _ h₁ => ?_)
    obtain ⟨d, rfl⟩ := h₁
    refine goes_oper_k rfl rfl (by decide) (fun K hK => ?_)
    go_simp
    refine hK _ _ ⟨⟨Nat.le_refl _, fun e he => ?_⟩, Ok.at ?_⟩
    · have hm := mem_listed he
      simp [go_sem] at hm
    clear hK K d
    refine Ok.step rfl (fun _ h₁ => ?_)
    obtain ⟨d, rfl⟩ := h₁
    rw [stepG_region_end]
    simp only [goes_go]
    refine ⟨ok_none _, Ok.at ?_⟩
    clear d
    refine Ok.step rfl (fun _ h₁ => ?_)
    obtain ⟨d, rfl⟩ := h₁
    rw [stepG_ret']
    simp only [goes_go]
    refine ⟨ok_none _, Ok.at ?_⟩
    clear d
    refine Ok.step rfl (fun _ h₁ => ?_)
    obtain ⟨d, rfl⟩ := h₁
    refine goes_leave1 rfl rfl Try.func8 rfl ⟨ok_none _, Ok.at ?_⟩
    clear d
    walk_nrm
    exact hS false ⟨fun h => (by cases h), fun h => absurd h.1 h6'⟩
def InvT (w : World) (a : Option Addr) (c : Nat) (L : List (List (List Int))) (ac : Act) (w' : World) : Prop :=
  ∃ (i : Nat) (u1 u2 u5 u6 u7 u8 u9 u10 u11 u12 u13 u14 u15 u16 u17 u18 : Value), i ≤ L.length ∧ w = w' ∧
    ac = ⟨#[.slice a L.length c, u1, u2, .int .i64 (tl (L.take i) : Int), .int .i64 (i : Int), u5, u6, u7, u8, u9, u10, u11, u12, u13, u14, u15, u16, u17, u18], []⟩
theorem tl_le_take {L : List (List (List Int))} (i : Nat) (h : ∀ row ∈ L, row.length ≤ 1000) : tl (L.take i) ≤ 1000 * i := by
  induction i with
  | zero => simp [tl]
  | succ i ih =>
    by_cases hi : i < L.length
    · rw [tl_take i hi]
      have := h _ (List.getElem_mem hi)
      omega
    · rw [List.take_of_length_le (by omega)]
      rw [List.take_of_length_le (by omega)] at ih
      omega
set_option maxRecDepth 100000 in
set_option maxHeartbeats 8000000 in
theorem total_ok (hR : R3 Old w (.slice a n c) L) (hlen : L.length ≤ 1000) (hbig : ∀ row ∈ L, row.length ≤ 1000)
    (hS : Ok Try.prog Post Old m (G (b₀.at (a₀.put ((ops₀[i₀]?).bind (·.dst)) (.int .i64 (tl L : Int))) (.inRegion ops₀ rest₀ :: k₀)) cs) w) :
    Ok Try.prog Post Old m (G ((base 10).at ⟨#[.slice a n c, undef, undef, undef, undef, undef, undef, undef, undef, undef, undef, undef, undef, undef, undef, undef, undef, undef, undef], []⟩ [.code bodyTo]) ((b₀.at a₀ (.inRegion ops₀ (i₀ :: rest₀) :: k₀)) :: cs)) w := by
  obtain rfl := hR.len
  have h0 : tl (L.take 0) = 0 := rfl
  simp only [bodyTo, Try.f10, Option.getD_some]
  refine Ok.step rfl (fun _ h₁ => ?_)
  obtain ⟨d, rfl⟩ := h₁
  rw [stepG_seq]
  simp only [goes_go]
  refine ⟨ok_none _, Ok.at ?_⟩
  clear d
  refine Ok.step rfl (fun _ h₁ => ?_)
  obtain ⟨d, rfl⟩ := h₁
  rw [stepG_region]
  simp only [goes_go, List.size_toArray, List.length_cons, List.length_nil, Nat.reduceAdd, Nat.zero_add, List.range, List.range.loop]
  refine ⟨ok_none _, Ok.at ?_⟩
  clear d
  refine Ok.step rfl (fun _ h₁ => ?_)
  obtain ⟨d, rfl⟩ := h₁
  refine goes_oper_k rfl rfl (by decide) (fun K hK => ?_)
  go_simp
  refine hK _ _ ⟨⟨Nat.le_refl _, fun e he => ?_⟩, Ok.at ?_⟩
  · have hm := mem_listed he
    simp [go_sem] at hm
  clear hK K d
  refine Ok.step rfl (fun _ h₁ => ?_)
  obtain ⟨d, rfl⟩ := h₁
  rw [stepG_region_end]
  simp only [goes_go]
  refine ⟨ok_none _, Ok.at ?_⟩
  clear d
  refine Ok.step rfl (fun _ h₁ => ?_)
  obtain ⟨d, rfl⟩ := h₁
  rw [stepG_seq]
  simp only [goes_go]
  refine ⟨ok_none _, Ok.at ?_⟩
  clear d
  refine Ok.step rfl (fun _ h₁ => ?_)
  obtain ⟨d, rfl⟩ := h₁
  rw [stepG_region]
  simp only [goes_go, List.size_toArray, List.length_cons, List.length_nil, Nat.reduceAdd, Nat.zero_add, List.range, List.range.loop]
  refine ⟨ok_none _, Ok.at ?_⟩
  clear d
  refine Ok.step rfl (fun _ h₁ => ?_)
  obtain ⟨d, rfl⟩ := h₁
  refine goes_oper_k rfl rfl (by decide) (fun K hK => ?_)
  go_simp
  refine hK _ _ ⟨⟨Nat.le_refl _, fun e he => ?_⟩, Ok.at ?_⟩
  · have hm := mem_listed he
    simp [go_sem] at hm
  clear hK K d
  refine Ok.step rfl (fun _ h₁ => ?_)
  obtain ⟨d, rfl⟩ := h₁
  rw [stepG_region_end]
  simp only [goes_go]
  refine ⟨ok_none _, Ok.at ?_⟩
  clear d
  refine Ok.step rfl (fun _ h₁ => ?_)
  obtain ⟨d, rfl⟩ := h₁
  rw [stepG_seq]
  simp only [goes_go]
  refine ⟨ok_none _, Ok.at ?_⟩
  clear d
  refine Ok.step rfl (fun _ h₁ => ?_)
  obtain ⟨d, rfl⟩ := h₁
  rw [stepG_seq]
  simp only [goes_go]
  refine ⟨ok_none _, Ok.at ?_⟩
  clear d
  refine Ok.step rfl (fun _ h₁ => ?_)
  obtain ⟨d, rfl⟩ := h₁
  rw [stepG_region]
  simp only [goes_go, List.size_toArray, List.length_cons, List.length_nil, Nat.reduceAdd, Nat.zero_add, List.range, List.range.loop]
  refine ⟨ok_none _, Ok.at ?_⟩
  clear d
  refine Ok.step rfl (fun _ h₁ => ?_)
  obtain ⟨d, rfl⟩ := h₁
  refine goes_oper_k rfl rfl (by decide) (fun K hK => ?_)
  go_simp
  refine hK _ _ ⟨⟨Nat.le_refl _, fun e he => ?_⟩, Ok.at ?_⟩
  · have hm := mem_listed he
    simp [go_sem] at hm
  clear hK K d
  refine Ok.step rfl (fun _ h₁ => ?_)
  obtain ⟨d, rfl⟩ := h₁
  rw [stepG_region_end]
  simp only [goes_go]
  refine ⟨ok_none _, Ok.at ?_⟩
  clear d
  refine Ok.step rfl (fun _ h₁ => ?_)
  obtain ⟨d, rfl⟩ := h₁
  rw [stepG_block]
  simp only [goes_go]
  refine ⟨ok_none _, Ok.at ?_⟩
  clear d
  refine Ok.loop (InvT w a c L) (MuS L.length 4) ⟨0, _, _, _, _, _, _, _, _, _, _, _, _, _, _, _, _, Nat.zero_le _, rfl, rfl⟩ ?_
  rintro _ _ ⟨i, u1, u2, u5, u6, u7, u8, u9, u10, u11, u12, u13, u14, u15, u16, u17, u18, hi, rfl, rfl⟩ hN
  refine Ok.step rfl (fun _ h₁ => ?_)
  obtain ⟨d, rfl⟩ := h₁
  rw [stepG_seq]
  simp only [goes_go]
  refine ⟨ok_none _, Ok.at ?_⟩
  clear d
  refine Ok.step rfl (fun _ h₁ => ?_)
  obtain ⟨d, rfl⟩ := h₁
  rw [stepG_seq]
  simp only [goes_go]
  refine ⟨ok_none _, Ok.at ?_⟩
  clear d
  refine Ok.step rfl (fun _ h₁ => ?_)
  obtain ⟨d, rfl⟩ := h₁
  rw [stepG_region]
  simp only [goes_go, List.size_toArray, List.length_cons, List.length_nil, Nat.reduceAdd, Nat.zero_add, List.range, List.range.loop]
  refine ⟨ok_none _, Ok.at ?_⟩
  clear d
  refine Ok.step rfl (fun _ h₁ => ?_)
  obtain ⟨d, rfl⟩ := h₁
  refine goes_oper_k rfl rfl (by decide) (fun K hK => ?_)
  go_simp
  refine hK _ _ ⟨⟨Nat.le_refl _, fun e he => ?_⟩, Ok.at ?_⟩
  · have hm := mem_listed he
    simp [go_sem] at hm
  clear hK K d
  refine Ok.step rfl (fun _ h₁ => ?_)
  obtain ⟨d, rfl⟩ := h₁
  refine goes_oper_k rfl rfl (by decide) (fun K hK => ?_)
  go_simp
  refine hK _ _ ⟨⟨Nat.le_refl _, fun e he => ?_⟩, Ok.at ?_⟩
  · have hm := mem_listed he
    simp [go_sem] at hm
  clear hK K d
  refine Ok.step rfl (fun _ h₁ => ?_)
  obtain ⟨d, rfl⟩ := h₁
  refine goes_oper_k rfl rfl (by decide) (fun K hK => ?_)
  go_simp
  refine hK _ _ ⟨⟨Nat.le_refl _, fun e he => ?_⟩, Ok.at ?_⟩
  · have hm := mem_listed he
    simp [go_sem] at hm
  clear hK K d
  cases hlt : decide (i < L.length)
  ·
    have hge : L.length ≤ i := by have := of_decide_eq_false hlt; omega
    refine Ok.step rfl (fun _ h₁ => ?_)
    obtain ⟨d, rfl⟩ := h₁
    refine goes_oper_k rfl rfl (by decide) (fun K hK => ?_)
    have f0 := hlt
    go_simp
    refine hK _ _ ⟨⟨Nat.le_refl _, fun e he => ?_⟩, Ok.at ?_⟩
    · have hm := mem_listed he
      simp [go_sem, f0] at hm
    clear hK K f0 d
    refine Ok.step rfl (fun _ h₁ => ?_)
    obtain ⟨d, rfl⟩ := h₁
    rw [stepG_region_end]
    simp only [goes_go]
    refine ⟨ok_none _, Ok.at ?_⟩
    clear d
    refine Ok.step rfl (fun _ h₁ => ?_)
    obtain ⟨d, rfl⟩ := h₁
    rw [stepG_cond (t := false) rfl]
    simp only [goes_go, if_true, if_false, Bool.false_eq_true, ↓reduceIte]
    refine ⟨ok_none _, Ok.at ?_⟩
    clear d
    refine Ok.step rfl (fun _ h₁ => ?_)
    obtain ⟨d, rfl⟩ := h₁
    refine goes_exit rfl ?_
    refine ⟨ok_none _, Ok.at ?_⟩
    clear d
    refine Ok.step rfl (fun _ h₁ => ?_)
    obtain ⟨d, rfl⟩ := h₁
    rw [stepG_seq]
    simp only [goes_go]
    refine ⟨ok_none _, Ok.at ?_⟩
    clear d
    refine Ok.step rfl (fun _ h₁ => ?_)
    obtain ⟨d, rfl⟩ := h₁
    rw [stepG_region]
    simp only [goes_go, List.size_toArray, List.length_cons, List.length_nil, Nat.reduceAdd, Nat.zero_add, List.range, List.range.loop]
    refine ⟨ok_none _, Ok.at ?_⟩
    clear d
    refine Ok.step rfl (fun _ h₁ => ?_)
    obtain ⟨d, rfl⟩ := h₁
    refine goes_oper_k rfl rfl (by decide) (fun K hK => ?_)
    go_simp
    refine hK _ _ ⟨⟨Nat.le_refl _, fun e he => ?_⟩, Ok.at ?_⟩
    · have hm := mem_listed he
      simp [go_sem] at hm
    clear hK K d
    refine Ok.step rfl (fun _ h₁ => ?_)
    obtain ⟨d, rfl⟩ := h₁
    refine goes_oper_k rfl rfl (by decide) (fun K hK => ?_)
    go_simp
    refine hK _ _ ⟨⟨Nat.le_refl _, fun e he => ?_⟩, Ok.at ?_⟩
    · have hm := mem_listed he
      simp [go_sem] at hm
    clear hK K d
    refine Ok.step rfl (fun _ h₁ => ?_)
    obtain ⟨d, rfl⟩ := h₁
    rw [stepG_region_end]
    simp only [goes_go]
    refine ⟨ok_none _, Ok.at ?_⟩
    clear d
    refine Ok.step rfl (fun _ h₁ => ?_)
    obtain ⟨d, rfl⟩ := h₁
    rw [stepG_ret']
    simp only [goes_go]
    refine ⟨ok_none _, Ok.at ?_⟩
    clear d
    refine Ok.step rfl (fun _ h₁ => ?_)
    obtain ⟨d, rfl⟩ := h₁
    refine goes_leave1 rfl rfl Try.func10 rfl ⟨ok_none _, Ok.at ?_⟩
    clear d
    walk_nrm
    rw [List.take_of_length_le hge]
    exact hS
  ·
    have hlt' : i < L.length := by have := of_decide_eq_true hlt; omega
    obtain ⟨M, hM⟩ : ∃ M, L[i]? = some M := ⟨_, List.getElem?_eq_getElem hlt'⟩
    obtain ⟨b, off, ra, rc, ha, hb, ho, hc, hR2⟩ := hR.at hM
    subst ha
    have q2 : (0 : Int) ≤ (i : Int) ∧ (i : Int) < (L.length : Int) := ⟨by omega, by omega⟩
    have hMl : L[i] = M := by rw [List.getElem?_eq_getElem hlt'] at hM; exact Option.some.inj hM
    have hb8 := hbig M (List.mem_of_getElem? hM)
    have hb9 := tl_le_take i hbig
    have q6 : IntKind.i64.wrap ((tl (L.take i) : Int) + (M.length : Int)) = ((tl (L.take i) + M.length : Nat) : Int) := by rw [IntKind.wrap_i64]; omega
    refine Ok.step rfl (fun _ h₁ => ?_)
    obtain ⟨d, rfl⟩ := h₁
    refine goes_oper_k rfl rfl (by decide) (fun K hK => ?_)
    have f0 := hlt
    go_simp
    refine hK _ _ ⟨⟨Nat.le_refl _, fun e he => ?_⟩, Ok.at ?_⟩
    · have hm := mem_listed he
      simp [go_sem, f0] at hm
    clear hK K f0 d
    refine Ok.step rfl (fun _ h₁ => ?_)
    obtain ⟨d, rfl⟩ := h₁
    rw [stepG_region_end]
    simp only [goes_go]
    refine ⟨ok_none _, Ok.at ?_⟩
    clear d
    refine Ok.step rfl (fun _ h₁ => ?_)
    obtain ⟨d, rfl⟩ := h₁
    rw [stepG_cond (t := true) rfl]
    simp only [goes_go, if_true, if_false, Bool.false_eq_true, ↓reduceIte]
    refine ⟨ok_none _, Ok.at ?_⟩
    clear d
    refine Ok.step rfl (fun _ h₁ => ?_)
    obtain ⟨d, rfl⟩ := h₁
    rw [stepG_skip]
    simp only [goes_go]
    refine ⟨ok_none _, Ok.at ?_⟩
    clear d
    refine Ok.step rfl (fun _ h₁ => ?_)
    obtain ⟨d, rfl⟩ := h₁
    rw [stepG_seq]
    simp only [goes_go]
    refine ⟨ok_none _, Ok.at ?_⟩
    clear d
    refine Ok.step rfl (fun _ h₁ => ?_)
    obtain ⟨d, rfl⟩ := h₁
    rw [stepG_block]
    simp only [goes_go]
    refine ⟨ok_none _, Ok.at ?_⟩
    clear d
    refine Ok.step rfl (fun _ h₁ => ?_)
    obtain ⟨d, rfl⟩ := h₁
    rw [stepG_region]
    simp only [goes_go, List.size_toArray, List.length_cons, List.length_nil, Nat.reduceAdd, Nat.zero_add, List.range, List.range.loop]
    refine ⟨ok_none _, Ok.at ?_⟩
    clear d
    refine Ok.step rfl (fun _ h₁ => ?_)
    obtain ⟨d, rfl⟩ := h₁
    refine goes_oper_k rfl rfl (by decide) (fun K hK => ?_)
    go_simp
    refine hK _ _ ⟨⟨Nat.le_refl _, fun e he => ?_⟩, Ok.at ?_⟩
    · have hm := mem_listed he
      simp [go_sem] at hm
    clear hK K d
    refine Ok.step rfl (fun _ h₁ => ?_)
    obtain ⟨d, rfl⟩ := h₁
    refine goes_oper_k rfl rfl (by decide) (fun K hK => ?_)
    go_simp
    refine hK _ _ ⟨⟨Nat.le_refl _, fun e he => ?_⟩, Ok.at ?_⟩
    · have hm := mem_listed he
      simp [go_sem] at hm
    clear hK K d
    refine Ok.step rfl (fun _ h₁ => ?_)
    obtain ⟨d, rfl⟩ := h₁
    refine goes_oper_k rfl rfl (by decide) (fun K hK => ?_)
    go_simp
    refine hK _ _ ⟨⟨Nat.le_refl _, fun e he => ?_⟩, Ok.at ?_⟩
    · have hm := mem_listed he
      simp [go_sem] at hm
    clear hK K d
    refine Ok.step rfl (fun _ h₁ => ?_)
    obtain ⟨d, rfl⟩ := h₁
    refine goes_oper_k rfl rfl (by decide) (fun K hK => ?_)
    have f0 := q2
    go_simp
    refine hK _ _ ⟨⟨Nat.le_refl _, fun e he => ?_⟩, Ok.at ?_⟩
    · have hm := mem_listed he
      simp [go_sem, f0] at hm
    clear hK K f0 d
    refine Ok.step rfl (fun _ h₁ => ?_)
    obtain ⟨d, rfl⟩ := h₁
    refine goes_oper_k rfl rfl (by decide) (fun K hK => ?_)
    have f0 : (w.at d).cell? ⟨b, off + i, none⟩ = some (.slice ra M.length rc) := hc
    go_simp
    refine hK _ _ ⟨⟨Nat.le_refl _, fun e he => ?_⟩, Ok.at ?_⟩
    · have hm := mem_listed he
      simp [go_sem, f0] at hm
      subst hm
      exact evO_cell hb ho
    clear hK K f0 d
    refine Ok.step rfl (fun _ h₁ => ?_)
    obtain ⟨d, rfl⟩ := h₁
    refine goes_oper_k rfl rfl (by decide) (fun K hK => ?_)
    go_simp
    refine hK _ _ ⟨⟨Nat.le_refl _, fun e he => ?_⟩, Ok.at ?_⟩
    · have hm := mem_listed he
      simp [go_sem] at hm
    clear hK K d
    refine Ok.step rfl (fun _ h₁ => ?_)
    obtain ⟨d, rfl⟩ := h₁
    refine goes_oper_k rfl rfl (by decide) (fun K hK => ?_)
    have f0 := q6
    go_simp
    refine hK _ _ ⟨⟨Nat.le_refl _, fun e he => ?_⟩, Ok.at ?_⟩
    · have hm := mem_listed he
      simp [go_sem, f0] at hm
    clear hK K f0 d
    refine Ok.step rfl (fun _ h₁ => ?_)
    obtain ⟨d, rfl⟩ := h₁
    refine goes_oper_k rfl rfl (by decide) (fun K hK => ?_)
    go_simp
    refine hK _ _ ⟨⟨Nat.le_refl _, fun e he => ?_⟩, Ok.at ?_⟩
    · have hm := mem_listed he
      simp [go_sem] at hm
    clear hK K d
    refine Ok.step rfl (fun _ h₁ => ?_)
    obtain ⟨d, rfl⟩ := h₁
    rw [stepG_region_end]
    simp only [goes_go]
    refine ⟨ok_none _, Ok.at ?_⟩
    clear d
    refine Ok.step rfl (fun _ h₁ => ?_)
    obtain ⟨d, rfl⟩ := h₁
    rw [stepG_inBlock]
    simp only [goes_go]
    refine ⟨ok_none _, Ok.at ?_⟩
    clear d
    refine Ok.step rfl (fun _ h₁ => ?_)
    obtain ⟨d, rfl⟩ := h₁
    rw [stepG_region]
    simp only [goes_go, List.size_toArray, List.length_cons, List.length_nil, Nat.reduceAdd, Nat.zero_add, List.range, List.range.loop]
    refine ⟨ok_none _, Ok.at ?_⟩
    clear d
    refine Ok.step rfl (fun _ h₁ => ?_)
    obtain ⟨d, rfl⟩ := h₁
    refine goes_oper_k rfl rfl (by decide) (fun K hK => ?_)
    go_simp
    refine hK _ _ ⟨⟨Nat.le_refl _, fun e he => ?_⟩, Ok.at ?_⟩
    · have hm := mem_listed he
      simp [go_sem] at hm
    clear hK K d
    have q5 := wrap_succ (i := i) (by omega)
    refine Ok.step rfl (fun _ h₁ => ?_)
    obtain ⟨d, rfl⟩ := h₁
    refine goes_oper_k rfl rfl (by decide) (fun K hK => ?_)
    have f0 := q5
    go_simp
    refine hK _ _ ⟨⟨Nat.le_refl _, fun e he => ?_⟩, Ok.at ?_⟩
    · have hm := mem_listed he
      simp [go_sem, f0] at hm
    clear hK K f0 d
    refine Ok.step rfl (fun _ h₁ => ?_)
    obtain ⟨d, rfl⟩ := h₁
    refine goes_oper_k rfl rfl (by decide) (fun K hK => ?_)
    go_simp
    refine hK _ _ ⟨⟨Nat.le_refl _, fun e he => ?_⟩, Ok.at ?_⟩
    · have hm := mem_listed he
      simp [go_sem] at hm
    clear hK K d
    refine Ok.step rfl (fun _ h₁ => ?_)
    obtain ⟨d, rfl⟩ := h₁
    rw [stepG_region_end]
    simp only [goes_go]
    refine ⟨ok_none _, Ok.at ?_⟩
    clear d
    have hT : (tl (L.take i) : Int) + (M.length : Int) = (tl (L.take (i + 1)) : Int) := by rw [tl_take i hlt', hMl]; omega
    rw [hT]
    exact hN _ _ ⟨i + 1, _, _, _, _, _, _, _, _, _, _, _, _, _, _, _, _, by omega, rfl, rfl⟩ (by simp [MuS]; omega)
def numF (x k : Int) : Int := Int.tmod (Int.tmod x k + k) k
theorem numF_ge {x k : Int} (hk : 0 < k) : 0 ≤ numF x k ∧ numF x k < k := by
  unfold numF
  have h1 : -k < Int.tmod x k := by
    have := Int.lt_tmod_of_pos x hk
    omega
  exact ⟨Int.tmod_nonneg _ (by omega), Int.tmod_lt_of_pos _ hk⟩
set_option maxRecDepth 100000 in
set_option maxHeartbeats 8000000 in
theorem number_ok {x k : Int} (hx : -9223372036854775808 ≤ x ∧ x ≤ 9223372036854775807) (hk : 0 < k ∧ k < 1000000)
    (hS : Ok Try.prog Post Old m (G (b₀.at (a₀.put ((ops₀[i₀]?).bind (·.dst)) (.int .i64 (numF x k))) (.inRegion ops₀ rest₀ :: k₀)) cs) w) :
    Ok Try.prog Post Old m (G ((base 13).at ⟨#[.int .i64 x, .int .i64 k, undef, undef, undef, undef, undef, undef, undef, undef, undef, undef, undef, undef], []⟩ [.code bodyNu]) ((b₀.at a₀ (.inRegion ops₀ (i₀ :: rest₀) :: k₀)) :: cs)) w := by
  have h1 : decide (k < (1 : Int)) = false := decide_eq_false (by omega)
  have h0 : ¬ k = 0 := by omega
  have hl1 := Int.lt_tmod_of_pos x hk.1
  have hl2 := Int.tmod_lt_of_pos x hk.1
  have h3 : IntKind.i64.wrap (Int.tmod x k + k) = Int.tmod x k + k := by rw [IntKind.wrap_i64]; omega
  unfold numF at hS
  simp only [bodyNu, Try.f13, Option.getD_some]
  refine Ok.step rfl (fun _ h₁ => ?_)
  obtain ⟨d, rfl⟩ := h₁
  rw [stepG_seq]
  simp only [goes_go]
  refine ⟨ok_none _, Ok.at ?_⟩
  clear d
  refine Ok.step rfl (fun _ h₁ => ?_)
  obtain ⟨d, rfl⟩ := h₁
  rw [stepG_region]
  simp only [goes_go, List.size_toArray, List.length_cons, List.length_nil, Nat.reduceAdd, Nat.zero_add, List.range, List.range.loop]
  refine ⟨ok_none _, Ok.at ?_⟩
  clear d
  refine Ok.step rfl (fun _ h₁ => ?_)
  obtain ⟨d, rfl⟩ := h₁
  refine goes_oper_k rfl rfl (by decide) (fun K hK => ?_)
  go_simp
  refine hK _ _ ⟨⟨Nat.le_refl _, fun e he => ?_⟩, Ok.at ?_⟩
  · have hm := mem_listed he
    simp [go_sem] at hm
  clear hK K d
  refine Ok.step rfl (fun _ h₁ => ?_)
  obtain ⟨d, rfl⟩ := h₁
  rw [stepG_region_end]
  simp only [goes_go]
  refine ⟨ok_none _, Ok.at ?_⟩
  clear d
  refine Ok.step rfl (fun _ h₁ => ?_)
  obtain ⟨d, rfl⟩ := h₁
  rw [stepG_seq]
  simp only [goes_go]
  refine ⟨ok_none _, Ok.at ?_⟩
  clear d
  refine Ok.step rfl (fun _ h₁ => ?_)
  obtain ⟨d, rfl⟩ := h₁
  rw [stepG_seq]
  simp only [goes_go]
  refine ⟨ok_none _, Ok.at ?_⟩
  clear d
  refine Ok.step rfl (fun _ h₁ => ?_)
  obtain ⟨d, rfl⟩ := h₁
  rw [stepG_region]
  simp only [goes_go, List.size_toArray, List.length_cons, List.length_nil, Nat.reduceAdd, Nat.zero_add, List.range, List.range.loop]
  refine ⟨ok_none _, Ok.at ?_⟩
  clear d
  refine Ok.step rfl (fun _ h₁ => ?_)
  obtain ⟨d, rfl⟩ := h₁
  refine goes_oper_k rfl rfl (by decide) (fun K hK => ?_)
  go_simp
  refine hK _ _ ⟨⟨Nat.le_refl _, fun e he => ?_⟩, Ok.at ?_⟩
  · have hm := mem_listed he
    simp [go_sem] at hm
  clear hK K d
  refine Ok.step rfl (fun _ h₁ => ?_)
  obtain ⟨d, rfl⟩ := h₁
  refine goes_oper_k rfl rfl (by decide) (fun K hK => ?_)
  have f0 := h1
  go_simp
  refine hK _ _ ⟨⟨Nat.le_refl _, fun e he => ?_⟩, Ok.at ?_⟩
  · have hm := mem_listed he
    simp [go_sem, f0] at hm
  clear hK K f0 d
  refine Ok.step rfl (fun _ h₁ => ?_)
  obtain ⟨d, rfl⟩ := h₁
  rw [stepG_region_end]
  simp only [goes_go]
  refine ⟨ok_none _, Ok.at ?_⟩
  clear d
  refine Ok.step rfl (fun _ h₁ => ?_)
  obtain ⟨d, rfl⟩ := h₁
  rw [stepG_cond (t := false) rfl]
  simp only [goes_go, if_true, if_false, Bool.false_eq_true, ↓reduceIte]
  refine ⟨ok_none _, Ok.at ?_⟩
  clear d
  refine Ok.step rfl (fun _ h₁ => ?_)
  obtain ⟨d, rfl⟩ := h₁
  rw [stepG_skip]
  simp only [goes_go]
  refine ⟨ok_none _, Ok.at ?_⟩
  clear d
  refine Ok.step rfl (fun _ h₁ => ?_)
  obtain ⟨d, rfl⟩ := h₁
  rw [stepG_seq]
  simp only [goes_go]
  refine ⟨ok_none _, Ok.at ?_⟩
  clear d
  refine Ok.step rfl (fun _ h₁ => ?_)
  obtain ⟨d, rfl⟩ := h₁
  rw [stepG_region]
  simp only [goes_go, List.size_toArray, List.length_cons, List.length_nil, Nat.reduceAdd, Nat.zero_add, List.range, List.range.loop]
  refine ⟨ok_none _, Ok.at ?_⟩
  clear d
  refine Ok.step rfl (fun _ h₁ => ?_)
  obtain ⟨d, rfl⟩ := h₁
  refine goes_oper_k rfl rfl (by decide) (fun K hK => ?_)
  go_simp
  refine hK _ _ ⟨⟨Nat.le_refl _, fun e he => ?_⟩, Ok.at ?_⟩
  · have hm := mem_listed he
    simp [go_sem] at hm
  clear hK K d
  refine Ok.step rfl (fun _ h₁ => ?_)
  obtain ⟨d, rfl⟩ := h₁
  refine goes_oper_k rfl rfl (by decide) (fun K hK => ?_)
  go_simp
  refine hK _ _ ⟨⟨Nat.le_refl _, fun e he => ?_⟩, Ok.at ?_⟩
  · have hm := mem_listed he
    simp [go_sem] at hm
  clear hK K d
  refine Ok.step rfl (fun _ h₁ => ?_)
  obtain ⟨d, rfl⟩ := h₁
  refine goes_oper_k rfl rfl (by decide) (fun K hK => ?_)
  have f0 := h0
  go_simp
  refine hK _ _ ⟨⟨Nat.le_refl _, fun e he => ?_⟩, Ok.at ?_⟩
  · have hm := mem_listed he
    simp [go_sem, f0] at hm
  clear hK K f0 d
  refine Ok.step rfl (fun _ h₁ => ?_)
  obtain ⟨d, rfl⟩ := h₁
  refine goes_oper_k rfl rfl (by decide) (fun K hK => ?_)
  go_simp
  refine hK _ _ ⟨⟨Nat.le_refl _, fun e he => ?_⟩, Ok.at ?_⟩
  · have hm := mem_listed he
    simp [go_sem] at hm
  clear hK K d
  refine Ok.step rfl (fun _ h₁ => ?_)
  obtain ⟨d, rfl⟩ := h₁
  refine goes_oper_k rfl rfl (by decide) (fun K hK => ?_)
  have f0 := h3
  go_simp
  refine hK _ _ ⟨⟨Nat.le_refl _, fun e he => ?_⟩, Ok.at ?_⟩
  · have hm := mem_listed he
    simp [go_sem, f0] at hm
  clear hK K f0 d
  refine Ok.step rfl (fun _ h₁ => ?_)
  obtain ⟨d, rfl⟩ := h₁
  refine goes_oper_k rfl rfl (by decide) (fun K hK => ?_)
  go_simp
  refine hK _ _ ⟨⟨Nat.le_refl _, fun e he => ?_⟩, Ok.at ?_⟩
  · have hm := mem_listed he
    simp [go_sem] at hm
  clear hK K d
  refine Ok.step rfl (fun _ h₁ => ?_)
  obtain ⟨d, rfl⟩ := h₁
  refine goes_oper_k rfl rfl (by decide) (fun K hK => ?_)
  have f0 := h0
  go_simp
  refine hK _ _ ⟨⟨Nat.le_refl _, fun e he => ?_⟩, Ok.at ?_⟩
  · have hm := mem_listed he
    simp [go_sem, f0] at hm
  clear hK K f0 d
  refine Ok.step rfl (fun _ h₁ => ?_)
  obtain ⟨d, rfl⟩ := h₁
  refine goes_oper_k rfl rfl (by decide) (fun K hK => ?_)
  go_simp
  refine hK _ _ ⟨⟨Nat.le_refl _, fun e he => ?_⟩, Ok.at ?_⟩
  · have hm := mem_listed he
    simp [go_sem] at hm
  clear hK K d
  refine Ok.step rfl (fun _ h₁ => ?_)
  obtain ⟨d, rfl⟩ := h₁
  rw [stepG_region_end]
  simp only [goes_go]
  refine ⟨ok_none _, Ok.at ?_⟩
  clear d
  refine Ok.step rfl (fun _ h₁ => ?_)
  obtain ⟨d, rfl⟩ := h₁
  rw [stepG_ret']
  simp only [goes_go]
  refine ⟨ok_none _, Ok.at ?_⟩
  clear d
  refine Ok.step rfl (fun _ h₁ => ?_)
  obtain ⟨d, rfl⟩ := h₁
  refine goes_leave1 rfl rfl Try.func13 rfl ⟨ok_none _, Ok.at ?_⟩
  clear d
  walk_nrm
  exact hS
set_option maxRecDepth 100000 in
set_option maxHeartbeats 8000000 in
theorem same_ok {a' : Option Addr} {n' c' : Nat} {xs ys : List Int} (h1 : R1 Old w (.slice a n c) xs) (h2 : R1 Old w (.slice a' n' c') ys)
    (hS : Ok Try.prog Post Old m (G (b₀.at (a₀.put ((ops₀[i₀]?).bind (·.dst)) (.bool (decide (xs = ys)))) (.inRegion ops₀ rest₀ :: k₀)) cs) w) :
    Ok Try.prog Post Old m (G ((base 15).at ⟨#[.slice a n c, .slice a' n' c', undef, undef, undef, undef, undef, undef, undef, undef], []⟩ [.code bodySa]) ((b₀.at a₀ (.inRegion ops₀ (i₀ :: rest₀) :: k₀)) :: cs)) w := by
  simp only [bodySa, Try.f15, Option.getD_some]
  refine Ok.step rfl (fun _ h₁ => ?_)
  obtain ⟨d, rfl⟩ := h₁
  rw [stepG_seq]
  simp only [goes_go]
  refine ⟨ok_none _, Ok.at ?_⟩
  clear d
  refine Ok.step rfl (fun _ h₁ => ?_)
  obtain ⟨d, rfl⟩ := h₁
  rw [stepG_region]
  simp only [goes_go, List.size_toArray, List.length_cons, List.length_nil, Nat.reduceAdd, Nat.zero_add, List.range, List.range.loop]
  refine ⟨ok_none _, Ok.at ?_⟩
  clear d
  refine Ok.step rfl (fun _ h₁ => ?_)
  obtain ⟨d, rfl⟩ := h₁
  refine goes_oper_k rfl rfl (by decide) (fun K hK => ?_)
  go_simp
  refine hK _ _ ⟨⟨Nat.le_refl _, fun e he => ?_⟩, Ok.at ?_⟩
  · have hm := mem_listed he
    simp [go_sem] at hm
  clear hK K d
  refine Ok.step rfl (fun _ h₁ => ?_)
  obtain ⟨d, rfl⟩ := h₁
  rw [stepG_region_end]
  simp only [goes_go]
  refine ⟨ok_none _, Ok.at ?_⟩
  clear d
  refine Ok.step rfl (fun _ h₁ => ?_)
  obtain ⟨d, rfl⟩ := h₁
  rw [stepG_seq]
  simp only [goes_go]
  refine ⟨ok_none _, Ok.at ?_⟩
  clear d
  refine Ok.step rfl (fun _ h₁ => ?_)
  obtain ⟨d, rfl⟩ := h₁
  rw [stepG_region]
  simp only [goes_go, List.size_toArray, List.length_cons, List.length_nil, Nat.reduceAdd, Nat.zero_add, List.range, List.range.loop]
  refine ⟨ok_none _, Ok.at ?_⟩
  clear d
  refine Ok.step rfl (fun _ h₁ => ?_)
  obtain ⟨d, rfl⟩ := h₁
  refine goes_oper_k rfl rfl (by decide) (fun K hK => ?_)
  go_simp
  refine hK _ _ ⟨⟨Nat.le_refl _, fun e he => ?_⟩, Ok.at ?_⟩
  · have hm := mem_listed he
    simp [go_sem] at hm
  clear hK K d
  refine Ok.opv rfl rfl (by decide) (fun _ h₁ => ?_)
  obtain ⟨d, rfl⟩ := h₁
  refine ⟨.string (strOfNums xs), w.at d, run_v (conv_bytes (w := w.at d) (Old := Old) Try.underlying30 Try.underlying5 Try.underlying9 (h1.ext ((Ext.refl Old w).at d))).1, Nat.le_refl _, fun e he => ?_, Ok.at ?_⟩
  · have he' : e ∈ (convert 30 9 (.slice a n c)).events Try.prog (w.at d) #[] := by
      rw [← ev_v (conv_bytes (w := w.at d) (Old := Old) Try.underlying30 Try.underlying5 Try.underlying9 (h1.ext ((Ext.refl Old w).at d))).1]; exact he
    exact (conv_bytes (w := w.at d) (Old := Old) Try.underlying30 Try.underlying5 Try.underlying9 (h1.ext ((Ext.refl Old w).at d))).2 e he'
  clear d
  walk_nrm
  refine Ok.step rfl (fun _ h₁ => ?_)
  obtain ⟨d, rfl⟩ := h₁
  refine goes_oper_k rfl rfl (by decide) (fun K hK => ?_)
  go_simp
  refine hK _ _ ⟨⟨Nat.le_refl _, fun e he => ?_⟩, Ok.at ?_⟩
  · have hm := mem_listed he
    simp [go_sem] at hm
  clear hK K d
  refine Ok.opv rfl rfl (by decide) (fun _ h₁ => ?_)
  obtain ⟨d, rfl⟩ := h₁
  refine ⟨.string (strOfNums ys), w.at d, run_v (conv_bytes (w := w.at d) (Old := Old) Try.underlying30 Try.underlying5 Try.underlying9 (h2.ext ((Ext.refl Old w).at d))).1, Nat.le_refl _, fun e he => ?_, Ok.at ?_⟩
  · have he' : e ∈ (convert 30 9 (.slice a' n' c')).events Try.prog (w.at d) #[] := by
      rw [← ev_v (conv_bytes (w := w.at d) (Old := Old) Try.underlying30 Try.underlying5 Try.underlying9 (h2.ext ((Ext.refl Old w).at d))).1]; exact he
    exact (conv_bytes (w := w.at d) (Old := Old) Try.underlying30 Try.underlying5 Try.underlying9 (h2.ext ((Ext.refl Old w).at d))).2 e he'
  clear d
  walk_nrm
  refine Ok.step rfl (fun _ h₁ => ?_)
  obtain ⟨d, rfl⟩ := h₁
  refine goes_oper_k rfl rfl (by decide) (fun K hK => ?_)
  go_simp
  refine hK _ _ ⟨⟨Nat.le_refl _, fun e he => ?_⟩, Ok.at ?_⟩
  · have hm := mem_listed he
    simp [go_sem] at hm
  clear hK K d
  refine Ok.step rfl (fun _ h₁ => ?_)
  obtain ⟨d, rfl⟩ := h₁
  refine goes_oper_k rfl rfl (by decide) (fun K hK => ?_)
  go_simp
  refine hK _ _ ⟨⟨Nat.le_refl _, fun e he => ?_⟩, Ok.at ?_⟩
  · have hm := mem_listed he
    simp [go_sem] at hm
  clear hK K d
  refine Ok.step rfl (fun _ h₁ => ?_)
  obtain ⟨d, rfl⟩ := h₁
  rw [stepG_region_end]
  simp only [goes_go]
  refine ⟨ok_none _, Ok.at ?_⟩
  clear d
  refine Ok.step rfl (fun _ h₁ => ?_)
  obtain ⟨d, rfl⟩ := h₁
  rw [stepG_ret']
  simp only [goes_go]
  refine ⟨ok_none _, Ok.at ?_⟩
  clear d
  refine Ok.step rfl (fun _ h₁ => ?_)
  obtain ⟨d, rfl⟩ := h₁
  refine goes_leave1 rfl rfl Try.func15 rfl ⟨ok_none _, Ok.at ?_⟩
  clear d
  walk_nrm
  rw [strOf_inj h1.2 h2.2]
  exact hS
end Go.Proofs.Ytiobhgemjbjipaa
