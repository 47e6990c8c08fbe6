/- The law PumpRow beside leavers: it answers true. Conditions stand as premises. -/
import Derived.Test.YtiobhgemjbjipaaPmPumpPF
import Derived.Test.YtiobhgemjbjipaaPmPumpApd
set_option linter.unusedSimpArgs false
set_option linter.unusedVariables false
namespace Go.Proofs.Ytiobhgemjbjipaa
open Go.Conc Go.RowKit Go.Conc.Lib
/-- One row, others without messages ahead and behind. -/
def rowsOf (A : Nat) (M : List (List Int)) (B : Nat) : List (List (List Int)) := List.replicate A [] ++ [M] ++ List.replicate B []
theorem rowsOf_at (A : Nat) (M : List (List Int)) (B : Nat) : (rowsOf A M B)[A]? = some M := by
  unfold rowsOf
  rw [List.append_assoc, List.getElem?_append_right (by simp)]
  simp
theorem rowsOf_other {A j : Nat} {M : List (List Int)} {B : Nat} {r : List (List Int)} (h : (rowsOf A M B)[j]? = some r) (hj : j ≠ A) : r = [] := by
  unfold rowsOf at h
  rw [List.append_assoc, List.getElem?_append] at h
  split at h
  · exact List.eq_of_mem_replicate (List.mem_of_getElem? h)
  · rename_i hl
    rw [List.length_replicate] at hl h
    obtain ⟨q, hq⟩ : ∃ q, j - A = q + 1 := ⟨j - A - 1, by omega⟩
    rw [hq] at h
    simp only [List.singleton_append, List.getElem?_cons_succ] at h
    exact List.eq_of_mem_replicate (List.mem_of_getElem? h)
theorem rowsOf_tl (A : Nat) (M : List (List Int)) (B : Nat) : tl (rowsOf A M B) = M.length := by
  unfold tl rowsOf
  simp
theorem rowsOf_len (A : Nat) (M : List (List Int)) (B : Nat) : (rowsOf A M B).length = A + 1 + B := by
  unfold rowsOf
  simp
  omega
variable {Old : Nat → Prop} {w : World}
theorem rowsOf_read {A B : Nat} {M : List (List Int)} {V lV : Value} (hl : R2 Old w lV M) (h : SlOf Old w V (List.replicate A nilS ++ [lV] ++ List.replicate B nilS)) : R3 Old w V (rowsOf A M B) := by
  have hnil : R2 Old w nilS [] := ⟨[], ⟨none, 0, rfl, Nat.zero_le _, Nat.zero_le _, fun _ => rfl, .inl rfl⟩, al_nil⟩
  refine ⟨_, h, by rw [rowsOf_len]; simp; omega, fun k v r h1 h2 => ?_⟩
  by_cases hk : k = A
  · subst hk
    rw [rowsOf_at] at h2
    rw [List.append_assoc, List.getElem?_append_right (by simp)] at h1
    simp at h1
    rw [← h1, ← Option.some.inj h2]
    exact hl
  · have hr := rowsOf_other h2 hk
    subst hr
    have hv : v = nilS := by
      rw [List.append_assoc, List.getElem?_append] at h1
      split at h1
      · exact List.eq_of_mem_replicate (List.mem_of_getElem? h1)
      · rename_i hl'
        rw [List.length_replicate] at hl' h1
        obtain ⟨q, hq⟩ : ∃ q, k - A = q + 1 := ⟨k - A - 1, by omega⟩
        rw [hq] at h1
        simp only [List.singleton_append, List.getElem?_cons_succ] at h1
        exact List.eq_of_mem_replicate (List.mem_of_getElem? h1)
    rw [hv]
    exact hnil
theorem pair_at {G : List (Nat × List Int)} {M : List (List Int)} {A i : Nat} {bs : List Int} {r : List (List Int)} (h1 : ∀ y ∈ G, y.1 = A) (h2 : M = G.map (·.2) ++ r) (hi : i < G.length) (hb : M[i]? = some bs) : G[i]? = some (A, bs) := by
  have hg := List.getElem?_eq_getElem hi
  have e1 := h1 _ (List.getElem_mem hi)
  have e2 : M[i]? = some G[i].2 := by
    rw [h2, List.getElem?_append_left (by simpa using hi), List.getElem?_map, hg]
    rfl
  rw [hb] at e2
  rw [hg, Option.some.inj e2, ← e1]
theorem GotL.at' {G0 : List (Nat × List Int)} {bs0 i n : Nat} {a : Option Addr} {c k : Nat} {bs : List Int} (h : GotL Old w bs0 (.slice a n c) G0) (hn : G0.length = n) (hi : G0[i]? = some (k, bs)) : ∃ g va vc, a = some ⟨g, 0, none⟩ ∧ g < w.heap.size ∧ ¬ Old g ∧ w.cell? ⟨g, i * 2, none⟩ = some (.int .i64 (k : Int)) ∧ w.cell? ⟨g, i * 2 + 1, none⟩ = some (.slice va bs.length vc) ∧ R1 Old w (.slice va bs.length vc) bs := h.at hi
variable {W : World} {m : Nat}
noncomputable def bodyPR : Code := (Try.f6).body.getD .skip
def InvP (w : World) (a : Option Addr) (c : Nat) (M : List (List Int)) (A N : Nat) (ga1 : Option Addr) (gc1 : Nat) (ga2 : Option Addr) (gc2 : Nat) (ac : Act) (w' : World) : Prop :=
  ∃ (i : Nat) (u2 u4 u5 u6 u7 u8 u10 u14 u15 u16 u17 u18 u19 u20 u21 u22 u23 u24 u25 u26 u27 u28 u29 u30 u31 u32 u33 u34 u35 u36 u37 u38 u39 u40 u41 u42 u43 u44 u45 u46 u47 u48 u49 u50 u51 u52 u53 u54 u55 u56 u57 u58 u59 u60 u61 u62 u63 u64 u65 u66 u67 u68 u69 u70 u71 u72 u73 u74 u75 u76 u77 u78 u79 u80 u81 u82 u83 u84 u85 u86 u87 u88 u89 u90 u91 u92 u93 u94 u95 u96 u97 u98 u99 u100 u101 u102 u103 u104 u105 u106 : Value), i ≤ M.length ∧ w = w' ∧
    ac = ⟨#[.slice a M.length c, .int .i64 (A : Int), u2, .int .i64 (N : Int), u4, u5, u6, u7, u8, .bool true, u10, .slice ga1 M.length gc1, .slice ga2 N gc2, .int .i64 (i : Int), u14, u15, u16, u17, u18, u19, u20, u21, u22, u23, u24, u25, u26, u27, u28, u29, u30, u31, u32, u33, u34, u35, u36, u37, u38, u39, u40, u41, u42, u43, u44, u45, u46, u47, u48, u49, u50, u51, u52, u53, u54, u55, u56, u57, u58, u59, u60, u61, u62, u63, u64, u65, u66, u67, u68, u69, u70, u71, u72, u73, u74, u75, u76, u77, u78, u79, u80, u81, u82, u83, u84, u85, u86, u87, u88, u89, u90, u91, u92, u93, u94, u95, u96, u97, u98, u99, u100, u101, u102, u103, u104, u105, u106], []⟩
set_option maxRecDepth 100000 in
set_option maxHeartbeats 8000000 in
theorem pumprow_ok {a : Option Addr} {n c : Nat} {x1 x2 x3 : Int} {M : List (List Int)} (hR : R2 NoB W (.slice a n c) M) (hx1 : -9223372036854775808 ≤ x1 ∧ x1 ≤ 9223372036854775807) (hx2 : -9223372036854775808 ≤ x2 ∧ x2 ≤ 9223372036854775807) (hx3 : -9223372036854775808 ≤ x3 ∧ x3 ≤ 9223372036854775807) :
    Ok Try.prog (Told W) NoB 1 (G ((base 6).at ⟨#[.slice a n c, .int .i64 x1, .int .i64 x2, .int .i64 x3, undef, undef, undef, undef, undef, undef, undef, undef, undef, undef, undef, undef, undef, undef, undef, undef, undef, undef, undef, undef, undef, undef, undef, undef, undef, undef, undef, undef, undef, undef, undef, undef, undef, undef, undef, undef, undef, undef, undef, undef, undef, undef, undef, undef, undef, undef, undef, undef, undef, undef, undef, undef, undef, undef, undef, undef, undef, undef, undef, undef, undef, undef, undef, undef, undef, undef, undef, undef, undef, undef, undef, undef, undef, undef, undef, undef, undef, undef, undef, undef, undef, undef, undef, undef, undef, undef, undef, undef, undef, undef, undef, undef, undef, undef, undef, undef, undef, undef, undef, undef, undef, undef, undef], []⟩ [.code bodyPR]) []) W := by
  obtain rfl := hR.len
  have hold0 : ∀ b, NoB b → b < W.heap.size := fun b h => h.elim
  simp only [bodyPR, Try.f6, Option.getD_some]
  refine Ok.step rfl (fun _ h₁ => ?_)
  obtain ⟨d, rfl⟩ := h₁
  rw [stepG_seq]
  simp only [goes_go]
  refine ⟨ok_none _, Ok.at ?_⟩
  clear d
  refine Ok.step rfl (fun _ h₁ => ?_)
  obtain ⟨d, rfl⟩ := h₁
  rw [stepG_region]
  simp only [goes_go, List.size_toArray, List.length_cons, List.length_nil, Nat.reduceAdd, Nat.zero_add, List.range, List.range.loop]
  refine ⟨ok_none _, Ok.at ?_⟩
  clear d
  refine Ok.step rfl (fun _ h₁ => ?_)
  obtain ⟨d, rfl⟩ := h₁
  refine goes_oper_k rfl rfl (by decide) (fun K hK => ?_)
  go_simp
  refine hK _ _ ⟨⟨Nat.le_refl _, fun e he => ?_⟩, Ok.at ?_⟩
  · have hm := mem_listed he
    simp [go_sem] at hm
  clear hK K d
  refine Ok.step rfl (fun _ h₁ => ?_)
  obtain ⟨d, rfl⟩ := h₁
  rw [stepG_region_end]
  simp only [goes_go]
  refine ⟨ok_none _, Ok.at ?_⟩
  clear d
  refine Ok.step rfl (fun _ h₁ => ?_)
  obtain ⟨d, rfl⟩ := h₁
  rw [stepG_seq]
  simp only [goes_go]
  refine ⟨ok_none _, Ok.at ?_⟩
  clear d
  refine Ok.step rfl (fun _ h₁ => ?_)
  obtain ⟨d, rfl⟩ := h₁
  rw [stepG_region]
  simp only [goes_go, List.size_toArray, List.length_cons, List.length_nil, Nat.reduceAdd, Nat.zero_add, List.range, List.range.loop]
  refine ⟨ok_none _, Ok.at ?_⟩
  clear d
  refine Ok.step rfl (fun _ h₁ => ?_)
  obtain ⟨d, rfl⟩ := h₁
  refine goes_call rfl rfl (by decide) rfl Try.func7 nm_first1 rfl ⟨ok_none _, Ok.at ?_⟩
  clear d
  walk_nrmf Try.f7
  refine first1_ok hold0 (by omega) (fun Old1 w1 e1 hold1 => ?_)
  have hR1 := hR.ext e1
  walk_nrm
  refine Ok.step rfl (fun _ h₁ => ?_)
  obtain ⟨d, rfl⟩ := h₁
  refine goes_oper_k rfl rfl (by decide) (fun K hK => ?_)
  go_simp
  refine hK _ _ ⟨⟨Nat.le_refl _, fun e he => ?_⟩, Ok.at ?_⟩
  · have hm := mem_listed he
    simp [go_sem] at hm
  clear hK K d
  refine Ok.step rfl (fun _ h₁ => ?_)
  obtain ⟨d, rfl⟩ := h₁
  rw [stepG_region_end]
  simp only [goes_go]
  refine ⟨ok_none _, Ok.at ?_⟩
  clear d
  refine Ok.step rfl (fun _ h₁ => ?_)
  obtain ⟨d, rfl⟩ := h₁
  rw [stepG_seq]
  simp only [goes_go]
  refine ⟨ok_none _, Ok.at ?_⟩
  clear d
  refine Ok.step rfl (fun _ h₁ => ?_)
  obtain ⟨d, rfl⟩ := h₁
  rw [stepG_seq]
  simp only [goes_go]
  refine ⟨ok_none _, Ok.at ?_⟩
  clear d
  refine Ok.step rfl (fun _ h₁ => ?_)
  obtain ⟨d, rfl⟩ := h₁
  rw [stepG_region]
  simp only [goes_go, List.size_toArray, List.length_cons, List.length_nil, Nat.reduceAdd, Nat.zero_add, List.range, List.range.loop]
  refine ⟨ok_none _, Ok.at ?_⟩
  clear d
  refine Ok.step rfl (fun _ h₁ => ?_)
  obtain ⟨d, rfl⟩ := h₁
  refine goes_oper_k rfl rfl (by decide) (fun K hK => ?_)
  go_simp
  refine hK _ _ ⟨⟨Nat.le_refl _, fun e he => ?_⟩, Ok.at ?_⟩
  · have hm := mem_listed he
    simp [go_sem] at hm
  clear hK K d
  refine Ok.step rfl (fun _ h₁ => ?_)
  obtain ⟨d, rfl⟩ := h₁
  refine goes_oper_k rfl rfl (by decide) (fun K hK => ?_)
  go_simp
  refine hK _ _ ⟨⟨Nat.le_refl _, fun e he => ?_⟩, Ok.at ?_⟩
  · have hm := mem_listed he
    simp [go_sem] at hm
  clear hK K d
  refine Ok.step rfl (fun _ h₁ => ?_)
  obtain ⟨d, rfl⟩ := h₁
  rw [stepG_region_end]
  simp only [goes_go]
  refine ⟨ok_none _, Ok.at ?_⟩
  clear d
  refine Ok.step rfl (fun _ h₁ => ?_)
  obtain ⟨d, rfl⟩ := h₁
  rw [stepG_cond (t := false) rfl]
  simp only [goes_go, if_true, if_false, Bool.false_eq_true, ↓reduceIte]
  refine ⟨ok_none _, Ok.at ?_⟩
  clear d
  refine Ok.step rfl (fun _ h₁ => ?_)
  obtain ⟨d, rfl⟩ := h₁
  rw [stepG_skip]
  simp only [goes_go]
  refine ⟨ok_none _, Ok.at ?_⟩
  clear d
  refine Ok.step rfl (fun _ h₁ => ?_)
  obtain ⟨d, rfl⟩ := h₁
  rw [stepG_seq]
  simp only [goes_go]
  refine ⟨ok_none _, Ok.at ?_⟩
  clear d
  refine Ok.step rfl (fun _ h₁ => ?_)
  obtain ⟨d, rfl⟩ := h₁
  rw [stepG_region]
  simp only [goes_go, List.size_toArray, List.length_cons, List.length_nil, Nat.reduceAdd, Nat.zero_add, List.range, List.range.loop]
  refine ⟨ok_none _, Ok.at ?_⟩
  clear d
  refine Ok.step rfl (fun _ h₁ => ?_)
  obtain ⟨d, rfl⟩ := h₁
  refine goes_oper_k rfl rfl (by decide) (fun K hK => ?_)
  go_simp
  refine hK _ _ ⟨⟨Nat.le_refl _, fun e he => ?_⟩, Ok.at ?_⟩
  · have hm := mem_listed he
    simp [go_sem] at hm
  clear hK K d
  refine Ok.step rfl (fun _ h₁ => ?_)
  obtain ⟨d, rfl⟩ := h₁
  refine goes_call rfl rfl (by decide) rfl Try.func13 nm_number rfl ⟨ok_none _, Ok.at ?_⟩
  clear d
  walk_nrmf Try.f13
  refine number_ok hx1 (by omega) ?_
  have hnbA := numF_ge (x := x1) (k := 3) (by omega)
  obtain ⟨A, hA⟩ := Int.eq_ofNat_of_zero_le hnbA.1
  rw [hA] at hnbA ⊢
  clear hA
  walk_nrm
  refine Ok.step rfl (fun _ h₁ => ?_)
  obtain ⟨d, rfl⟩ := h₁
  refine goes_oper_k rfl rfl (by decide) (fun K hK => ?_)
  go_simp
  refine hK _ _ ⟨⟨Nat.le_refl _, fun e he => ?_⟩, Ok.at ?_⟩
  · have hm := mem_listed he
    simp [go_sem] at hm
  clear hK K d
  refine Ok.step rfl (fun _ h₁ => ?_)
  obtain ⟨d, rfl⟩ := h₁
  refine goes_call rfl rfl (by decide) rfl Try.func13 nm_number rfl ⟨ok_none _, Ok.at ?_⟩
  clear d
  walk_nrmf Try.f13
  refine number_ok hx2 (by omega) ?_
  have hnbB := numF_ge (x := x2) (k := 3) (by omega)
  obtain ⟨B, hB⟩ := Int.eq_ofNat_of_zero_le hnbB.1
  rw [hB] at hnbB ⊢
  clear hB
  walk_nrm
  refine Ok.step rfl (fun _ h₁ => ?_)
  obtain ⟨d, rfl⟩ := h₁
  refine goes_oper_k rfl rfl (by decide) (fun K hK => ?_)
  go_simp
  refine hK _ _ ⟨⟨Nat.le_refl _, fun e he => ?_⟩, Ok.at ?_⟩
  · have hm := mem_listed he
    simp [go_sem] at hm
  clear hK K d
  refine Ok.step rfl (fun _ h₁ => ?_)
  obtain ⟨d, rfl⟩ := h₁
  refine goes_oper_k rfl rfl (by decide) (fun K hK => ?_)
  go_simp
  refine hK _ _ ⟨⟨Nat.le_refl _, fun e he => ?_⟩, Ok.at ?_⟩
  · have hm := mem_listed he
    simp [go_sem] at hm
  clear hK K d
  refine Ok.step rfl (fun _ h₁ => ?_)
  obtain ⟨d, rfl⟩ := h₁
  rw [stepG_region_end]
  simp only [goes_go]
  refine ⟨ok_none _, Ok.at ?_⟩
  clear d
  refine Ok.step rfl (fun _ h₁ => ?_)
  obtain ⟨d, rfl⟩ := h₁
  rw [stepG_seq]
  simp only [goes_go]
  refine ⟨ok_none _, Ok.at ?_⟩
  clear d
  refine Ok.step rfl (fun _ h₁ => ?_)
  obtain ⟨d, rfl⟩ := h₁
  rw [stepG_region]
  simp only [goes_go, List.size_toArray, List.length_cons, List.length_nil, Nat.reduceAdd, Nat.zero_add, List.range, List.range.loop]
  refine ⟨ok_none _, Ok.at ?_⟩
  clear d
  refine Ok.step rfl (fun _ h₁ => ?_)
  obtain ⟨d, rfl⟩ := h₁
  refine goes_oper_k rfl rfl (by decide) (fun K hK => ?_)
  go_simp
  refine hK _ _ ⟨⟨Nat.le_refl _, fun e he => ?_⟩, Ok.at ?_⟩
  · have hm := mem_listed he
    simp [go_sem] at hm
  clear hK K d
  refine Ok.opv rfl rfl (by decide) (fun _ h₁ => ?_)
  obtain ⟨d, rfl⟩ := h₁
  have hmk : (Instr.makeSlice 22 (.int .i64 (A : Int)) (.int .i64 (A : Int))).run Try.prog (w1.at d) = .ok (.slice (some ⟨w1.heap.size, 0, none⟩) A A) ((w1.at d).alloc (.cells (List.replicate A nilS).toArray 29)) := (make_rows3 (w1.at d) A (by omega)).1
  have hme := (make_rows3 (w1.at d) A (by omega)).2 #[]
  refine ⟨.slice (some ⟨w1.heap.size, 0, none⟩) A A, _, run_v hmk, by simp, fun e he => ?_, ?_⟩
  · have he' : e ∈ (Instr.makeSlice 22 (.int .i64 (A : Int)) (.int .i64 (A : Int))).events Try.prog (w1.at d) #[] := by
      rw [← ev_v hmk]; exact he
    rw [hme] at he'
    simp at he'
  rw [show (w1.at d).alloc (.cells (List.replicate A nilS).toArray 29) = (w1.alloc (.cells (List.replicate A nilS).toArray 29)).at d from rfl]
  refine Ok.at ?_
  have e2 : Ext Old1 Old1 w1 (w1.alloc (.cells (List.replicate A nilS).toArray 29)) := Ext.alloc Old1 w1 _
  have ow2 := owns_made (w := w1) (base := w1.heap.size) (n := A) (Nat.le_refl _) (by unfold maxLen; omega)
  obtain ⟨w2, hw2⟩ : ∃ w2, w2 = w1.alloc (.cells (List.replicate A nilS).toArray 29) := ⟨_, rfl⟩
  rw [← hw2] at e2 ow2 ⊢
  clear hw2 hmk hme d
  walk_nrm
  refine Ok.step rfl (fun _ h₁ => ?_)
  obtain ⟨d, rfl⟩ := h₁
  refine goes_oper_k rfl rfl (by decide) (fun K hK => ?_)
  go_simp
  refine hK _ _ ⟨⟨Nat.le_refl _, fun e he => ?_⟩, Ok.at ?_⟩
  · have hm := mem_listed he
    simp [go_sem] at hm
  clear hK K d
  refine Ok.opv rfl rfl (by decide) (fun _ h₁ => ?_)
  obtain ⟨d, rfl⟩ := h₁
  refine ⟨.slice (some ⟨w2.heap.size, 0, none⟩) 1 1, (w2.at d).alloc (.cells #[.slice a M.length c] 29), by simp [go_sem, execOp, World.at], by simp, fun e he => ?_, ?_⟩
  · simp [go_sem, execOp] at he
  rw [show (w2.at d).alloc (.cells #[.slice a M.length c] 29) = (w2.alloc (.cells #[.slice a M.length c] 29)).at d from rfl]
  refine Ok.at ?_
  clear d
  have e3 : Ext Old1 Old1 w1 (w2.alloc (.cells #[.slice a M.length c] 29)) := e2.trans (Ext.alloc Old1 w2 _)
  have ow3 := ow2.alloc (.cells #[.slice a M.length c] 29)
  have htb : (w2.alloc (.cells #[.slice a M.length c] 29)).heap[w2.heap.size]? = some (.cells #[.slice a M.length c] 29) := heap_alloc_new w2 _
  have htb0 := e2.size
  obtain ⟨w3, hw3⟩ : ∃ w3, w3 = w2.alloc (.cells #[.slice a M.length c] 29) := ⟨_, rfl⟩
  rw [← hw3] at e3 ow3 htb ⊢
  clear hw3
  walk_nrm
  refine Ok.append_one (.tmp 22) (.tmp 24) infoS3 rfl rfl (by decide) rfl rfl rfl ow3 e3.size (by omega) rfl htb hold1 htb0 (fun V4 w4 ow4 g4 => ?_)
  have e4 := e3.grow g4 (fun k hk => (World.ownsRow.lt ow3 k hk).1)
  clear g4 htb
  walk_nrm
  refine Ok.step rfl (fun _ h₁ => ?_)
  obtain ⟨d, rfl⟩ := h₁
  refine goes_oper_k rfl rfl (by decide) (fun K hK => ?_)
  go_simp
  refine hK _ _ ⟨⟨Nat.le_refl _, fun e he => ?_⟩, Ok.at ?_⟩
  · have hm := mem_listed he
    simp [go_sem] at hm
  clear hK K d
  refine Ok.append_nils (.tmp 25) (.tmp 26) rfl rfl (by decide) rfl rfl rfl ow4 e4.size (by omega) hold1 (fun V5 w5 ow5 g5 => ?_)
  have e5 := e4.grow g5 (fun k hk => (World.ownsRow.lt ow4 k hk).1)
  clear g5
  have hRw : R3 Old1 w5 V5 (rowsOf A M B) := rowsOf_read (hR1.ext e5) (SlOf.own ow5 hold1)
  have hold5 : ∀ b, Old1 b → b < w5.heap.size := fun b hb => Nat.lt_of_lt_of_le (hold1 b hb) e5.size
  obtain ⟨va5, vc5, rfl⟩ := owns_eq ow5
  have E5 := e1.trans e5
  have hRM := hR1.ext e5
  clear ow5 ow4 ow3 ow2 e4 e3 e2 hR1
  walk_nrm
  refine Ok.step rfl (fun _ h₁ => ?_)
  obtain ⟨d, rfl⟩ := h₁
  refine goes_oper_k rfl rfl (by decide) (fun K hK => ?_)
  go_simp
  refine hK _ _ ⟨⟨Nat.le_refl _, fun e he => ?_⟩, Ok.at ?_⟩
  · have hm := mem_listed he
    simp [go_sem] at hm
  clear hK K d
  refine Ok.step rfl (fun _ h₁ => ?_)
  obtain ⟨d, rfl⟩ := h₁
  rw [stepG_region_end]
  simp only [goes_go]
  refine ⟨ok_none _, Ok.at ?_⟩
  clear d
  refine Ok.step rfl (fun _ h₁ => ?_)
  obtain ⟨d, rfl⟩ := h₁
  rw [stepG_seq]
  simp only [goes_go]
  refine ⟨ok_none _, Ok.at ?_⟩
  clear d
  refine Ok.step rfl (fun _ h₁ => ?_)
  obtain ⟨d, rfl⟩ := h₁
  rw [stepG_seq]
  simp only [goes_go]
  refine ⟨ok_none _, Ok.at ?_⟩
  clear d
  refine Ok.step rfl (fun _ h₁ => ?_)
  obtain ⟨d, rfl⟩ := h₁
  rw [stepG_region]
  simp only [goes_go, List.size_toArray, List.length_cons, List.length_nil, Nat.reduceAdd, Nat.zero_add, List.range, List.range.loop]
  refine ⟨ok_none _, Ok.at ?_⟩
  clear d
  refine Ok.step rfl (fun _ h₁ => ?_)
  obtain ⟨d, rfl⟩ := h₁
  refine goes_oper_k rfl rfl (by decide) (fun K hK => ?_)
  go_simp
  refine hK _ _ ⟨⟨Nat.le_refl _, fun e he => ?_⟩, Ok.at ?_⟩
  · have hm := mem_listed he
    simp [go_sem] at hm
  clear hK K d
  refine Ok.step rfl (fun _ h₁ => ?_)
  obtain ⟨d, rfl⟩ := h₁
  refine goes_call rfl rfl (by decide) rfl Try.func8 nm_light rfl ⟨ok_none _, Ok.at ?_⟩
  clear d
  walk_nrmf Try.f8
  refine light_ok hRw (fun t ht => ?_)
  cases t
  ·
    walk_nrm
    refine Ok.step rfl (fun _ h₁ => ?_)
    obtain ⟨d, rfl⟩ := h₁
    refine goes_oper_k rfl rfl (by decide) (fun K hK => ?_)
    go_simp
    refine hK _ _ ⟨⟨Nat.le_refl _, fun e he => ?_⟩, Ok.at ?_⟩
    · have hm := mem_listed he
      simp [go_sem] at hm
    clear hK K d
    refine Ok.step rfl (fun _ h₁ => ?_)
    obtain ⟨d, rfl⟩ := h₁
    rw [stepG_region_end]
    simp only [goes_go]
    refine ⟨ok_none _, Ok.at ?_⟩
    clear d
    refine Ok.step rfl (fun _ h₁ => ?_)
    obtain ⟨d, rfl⟩ := h₁
    rw [stepG_cond (t := true) rfl]
    simp only [goes_go, if_true, if_false, Bool.false_eq_true, ↓reduceIte]
    refine ⟨ok_none _, Ok.at ?_⟩
    clear d
    refine Ok.step rfl (fun _ h₁ => ?_)
    obtain ⟨d, rfl⟩ := h₁
    rw [stepG_seq]
    simp only [goes_go]
    refine ⟨ok_none _, Ok.at ?_⟩
    clear d
    refine Ok.step rfl (fun _ h₁ => ?_)
    obtain ⟨d, rfl⟩ := h₁
    rw [stepG_region]
    simp only [goes_go, List.size_toArray, List.length_cons, List.length_nil, Nat.reduceAdd, Nat.zero_add, List.range, List.range.loop]
    refine ⟨ok_none _, Ok.at ?_⟩
    clear d
    refine Ok.step rfl (fun _ h₁ => ?_)
    obtain ⟨d, rfl⟩ := h₁
    refine goes_oper_k rfl rfl (by decide) (fun K hK => ?_)
    go_simp
    refine hK _ _ ⟨⟨Nat.le_refl _, fun e he => ?_⟩, Ok.at ?_⟩
    · have hm := mem_listed he
      simp [go_sem] at hm
    clear hK K d
    refine Ok.step rfl (fun _ h₁ => ?_)
    obtain ⟨d, rfl⟩ := h₁
    refine goes_oper_k rfl rfl (by decide) (fun K hK => ?_)
    go_simp
    refine hK _ _ ⟨⟨Nat.le_refl _, fun e he => ?_⟩, Ok.at ?_⟩
    · have hm := mem_listed he
      simp [go_sem] at hm
    clear hK K d
    refine Ok.step rfl (fun _ h₁ => ?_)
    obtain ⟨d, rfl⟩ := h₁
    rw [stepG_region_end]
    simp only [goes_go]
    refine ⟨ok_none _, Ok.at ?_⟩
    clear d
    refine Ok.step rfl (fun _ h₁ => ?_)
    obtain ⟨d, rfl⟩ := h₁
    rw [stepG_ret']
    simp only [goes_go]
    refine ⟨ok_none _, Ok.at ?_⟩
    clear d
    exact Ok.top (fn := Try.f6) Try.func6 (by kernel_rfl) rfl (v := .bool true) (resultsC_tmp (fn := Try.f6) (t := 8) rfl _) (fun d => ⟨rfl, _, (E5).at d⟩)
  ·
    have hL := ht.1 rfl
    have hM8 : M.length ≤ 8 := (hL.2 M (List.mem_of_getElem? (rowsOf_at A M B))).1
    have q1 : IntKind.i64.wrap ((M.length : Int) + 1) = (M.length : Int) + 1 := by rw [IntKind.wrap_i64]; omega
    clear ht
    walk_nrm
    refine Ok.step rfl (fun _ h₁ => ?_)
    obtain ⟨d, rfl⟩ := h₁
    refine goes_oper_k rfl rfl (by decide) (fun K hK => ?_)
    go_simp
    refine hK _ _ ⟨⟨Nat.le_refl _, fun e he => ?_⟩, Ok.at ?_⟩
    · have hm := mem_listed he
      simp [go_sem] at hm
    clear hK K d
    refine Ok.step rfl (fun _ h₁ => ?_)
    obtain ⟨d, rfl⟩ := h₁
    rw [stepG_region_end]
    simp only [goes_go]
    refine ⟨ok_none _, Ok.at ?_⟩
    clear d
    refine Ok.step rfl (fun _ h₁ => ?_)
    obtain ⟨d, rfl⟩ := h₁
    rw [stepG_cond (t := false) rfl]
    simp only [goes_go, if_true, if_false, Bool.false_eq_true, ↓reduceIte]
    refine ⟨ok_none _, Ok.at ?_⟩
    clear d
    refine Ok.step rfl (fun _ h₁ => ?_)
    obtain ⟨d, rfl⟩ := h₁
    rw [stepG_skip]
    simp only [goes_go]
    refine ⟨ok_none _, Ok.at ?_⟩
    clear d
    refine Ok.step rfl (fun _ h₁ => ?_)
    obtain ⟨d, rfl⟩ := h₁
    rw [stepG_seq]
    simp only [goes_go]
    refine ⟨ok_none _, Ok.at ?_⟩
    clear d
    refine Ok.step rfl (fun _ h₁ => ?_)
    obtain ⟨d, rfl⟩ := h₁
    rw [stepG_region]
    simp only [goes_go, List.size_toArray, List.length_cons, List.length_nil, Nat.reduceAdd, Nat.zero_add, List.range, List.range.loop]
    refine ⟨ok_none _, Ok.at ?_⟩
    clear d
    refine Ok.step rfl (fun _ h₁ => ?_)
    obtain ⟨d, rfl⟩ := h₁
    refine goes_oper_k rfl rfl (by decide) (fun K hK => ?_)
    go_simp
    refine hK _ _ ⟨⟨Nat.le_refl _, fun e he => ?_⟩, Ok.at ?_⟩
    · have hm := mem_listed he
      simp [go_sem] at hm
    clear hK K d
    refine Ok.step rfl (fun _ h₁ => ?_)
    obtain ⟨d, rfl⟩ := h₁
    refine goes_oper_k rfl rfl (by decide) (fun K hK => ?_)
    go_simp
    refine hK _ _ ⟨⟨Nat.le_refl _, fun e he => ?_⟩, Ok.at ?_⟩
    · have hm := mem_listed he
      simp [go_sem] at hm
    clear hK K d
    refine Ok.step rfl (fun _ h₁ => ?_)
    obtain ⟨d, rfl⟩ := h₁
    refine goes_oper_k rfl rfl (by decide) (fun K hK => ?_)
    go_simp
    refine hK _ _ ⟨⟨Nat.le_refl _, fun e he => ?_⟩, Ok.at ?_⟩
    · have hm := mem_listed he
      simp [go_sem] at hm
    clear hK K d
    refine Ok.step rfl (fun _ h₁ => ?_)
    obtain ⟨d, rfl⟩ := h₁
    refine goes_oper_k rfl rfl (by decide) (fun K hK => ?_)
    have f0 := q1
    go_simp
    refine hK _ _ ⟨⟨Nat.le_refl _, fun e he => ?_⟩, Ok.at ?_⟩
    · have hm := mem_listed he
      simp [go_sem, f0] at hm
    clear hK K f0 d
    refine Ok.step rfl (fun _ h₁ => ?_)
    obtain ⟨d, rfl⟩ := h₁
    refine goes_call rfl rfl (by decide) rfl Try.func13 nm_number rfl ⟨ok_none _, Ok.at ?_⟩
    clear d
    walk_nrmf Try.f13
    refine number_ok hx3 (by omega) ?_
    have hnbN := numF_ge (x := x3) (k := (M.length : Int) + 1) (by omega)
    obtain ⟨N, hN⟩ := Int.eq_ofNat_of_zero_le hnbN.1
    rw [hN] at hnbN ⊢
    clear hN
    walk_nrm
    refine Ok.step rfl (fun _ h₁ => ?_)
    obtain ⟨d, rfl⟩ := h₁
    refine goes_oper_k rfl rfl (by decide) (fun K hK => ?_)
    go_simp
    refine hK _ _ ⟨⟨Nat.le_refl _, fun e he => ?_⟩, Ok.at ?_⟩
    · have hm := mem_listed he
      simp [go_sem] at hm
    clear hK K d
    refine Ok.step rfl (fun _ h₁ => ?_)
    obtain ⟨d, rfl⟩ := h₁
    rw [stepG_region_end]
    simp only [goes_go]
    refine ⟨ok_none _, Ok.at ?_⟩
    clear d
    refine Ok.step rfl (fun _ h₁ => ?_)
    obtain ⟨d, rfl⟩ := h₁
    rw [stepG_seq]
    simp only [goes_go]
    refine ⟨ok_none _, Ok.at ?_⟩
    clear d
    refine Ok.step rfl (fun _ h₁ => ?_)
    obtain ⟨d, rfl⟩ := h₁
    rw [stepG_region]
    simp only [goes_go, List.size_toArray, List.length_cons, List.length_nil, Nat.reduceAdd, Nat.zero_add, List.range, List.range.loop]
    refine ⟨ok_none _, Ok.at ?_⟩
    clear d
    refine Ok.step rfl (fun _ h₁ => ?_)
    obtain ⟨d, rfl⟩ := h₁
    refine goes_oper_k rfl rfl (by decide) (fun K hK => ?_)
    go_simp
    refine hK _ _ ⟨⟨Nat.le_refl _, fun e he => ?_⟩, Ok.at ?_⟩
    · have hm := mem_listed he
      simp [go_sem] at hm
    clear hK K d
    refine Ok.step rfl (fun _ h₁ => ?_)
    obtain ⟨d, rfl⟩ := h₁
    refine goes_call rfl rfl (by decide) rfl Try.func9 nm_gather rfl ⟨ok_none _, Ok.at ?_⟩
    clear d
    walk_nrmf Try.f9
    refine gather_ok hRw hL.sm hold5 (by omega) (fun Old6 w6 V6 gl1 e6 hold6 hg1 hmg1 => ?_)
    have hl1 := hmg1.len trivial
    rw [rowsOf_tl] at hl1
    obtain ⟨h1a, r1, h1b, h1c⟩ := hmg1.alone (rowsOf_at A M B) (fun j r hj hne => rowsOf_other hj hne)
    obtain ⟨ga1, gc1, hV1, _⟩ := id hg1
    rw [hl1] at hV1
    subst hV1
    have HL1 := Lib.hid hl1
    have HB1 := Lib.hid h1b
    clear hl1 hmg1 h1c h1b
    walk_nrm
    refine Ok.step rfl (fun _ h₁ => ?_)
    obtain ⟨d, rfl⟩ := h₁
    refine goes_oper_k rfl rfl (by decide) (fun K hK => ?_)
    go_simp
    refine hK _ _ ⟨⟨Nat.le_refl _, fun e he => ?_⟩, Ok.at ?_⟩
    · have hm := mem_listed he
      simp [go_sem] at hm
    clear hK K d
    refine Ok.step rfl (fun _ h₁ => ?_)
    obtain ⟨d, rfl⟩ := h₁
    refine goes_oper_k rfl rfl (by decide) (fun K hK => ?_)
    go_simp
    refine hK _ _ ⟨⟨Nat.le_refl _, fun e he => ?_⟩, Ok.at ?_⟩
    · have hm := mem_listed he
      simp [go_sem] at hm
    clear hK K d
    refine Ok.step rfl (fun _ h₁ => ?_)
    obtain ⟨d, rfl⟩ := h₁
    refine goes_call rfl rfl (by decide) rfl Try.func14 nm_first rfl ⟨ok_none _, Ok.at ?_⟩
    clear d
    walk_nrmf Try.f14
    refine first_ok (nF := (N : Int)) (hRw.ext e6) hL.sm hold6 (by omega) (fun Old7 w7 V7 gl2 e7 hold7 hg2 hmg2 hl2 => ?_)
    rw [rowsOf_tl] at hl2
    have hl2' : gl2.length = N := by omega
    obtain ⟨h2a, r2, h2b, h2c⟩ := hmg2.alone (rowsOf_at A M B) (fun j r hj hne => rowsOf_other hj hne)
    obtain ⟨ga2, gc2, hV2, _⟩ := id hg2
    rw [hl2'] at hV2
    subst hV2
    have HL2 := Lib.hid hl2'
    clear hl2 hl2' hmg2 h2c
    replace hg1 := hg1.ext e7
    replace hRM := hRM.ext (e6.trans e7)
    have E7 := E5.trans (e6.trans e7)
    have HB2 := Lib.hid h2b
    clear h2b hRw
    walk_nrm
    refine Ok.step rfl (fun _ h₁ => ?_)
    obtain ⟨d, rfl⟩ := h₁
    refine goes_oper_k rfl rfl (by decide) (fun K hK => ?_)
    go_simp
    refine hK _ _ ⟨⟨Nat.le_refl _, fun e he => ?_⟩, Ok.at ?_⟩
    · have hm := mem_listed he
      simp [go_sem] at hm
    clear hK K d
    refine Ok.step rfl (fun _ h₁ => ?_)
    obtain ⟨d, rfl⟩ := h₁
    refine goes_oper_k rfl rfl (by decide) (fun K hK => ?_)
    go_simp
    refine hK _ _ ⟨⟨Nat.le_refl _, fun e he => ?_⟩, Ok.at ?_⟩
    · have hm := mem_listed he
      simp [go_sem] at hm
    clear hK K d
    refine Ok.step rfl (fun _ h₁ => ?_)
    obtain ⟨d, rfl⟩ := h₁
    rw [stepG_region_end]
    simp only [goes_go]
    refine ⟨ok_none _, Ok.at ?_⟩
    clear d
    refine Ok.step rfl (fun _ h₁ => ?_)
    obtain ⟨d, rfl⟩ := h₁
    rw [stepG_seq]
    simp only [goes_go]
    refine ⟨ok_none _, Ok.at ?_⟩
    clear d
    refine Ok.step rfl (fun _ h₁ => ?_)
    obtain ⟨d, rfl⟩ := h₁
    rw [stepG_seq]
    simp only [goes_go]
    refine ⟨ok_none _, Ok.at ?_⟩
    clear d
    refine Ok.step rfl (fun _ h₁ => ?_)
    obtain ⟨d, rfl⟩ := h₁
    rw [stepG_region]
    simp only [goes_go, List.size_toArray, List.length_cons, List.length_nil, Nat.reduceAdd, Nat.zero_add, List.range, List.range.loop]
    refine ⟨ok_none _, Ok.at ?_⟩
    clear d
    refine Ok.step rfl (fun _ h₁ => ?_)
    obtain ⟨d, rfl⟩ := h₁
    refine goes_oper_k rfl rfl (by decide) (fun K hK => ?_)
    go_simp
    refine hK _ _ ⟨⟨Nat.le_refl _, fun e he => ?_⟩, Ok.at ?_⟩
    · have hm := mem_listed he
      simp [go_sem] at hm
    clear hK K d
    refine Ok.step rfl (fun _ h₁ => ?_)
    obtain ⟨d, rfl⟩ := h₁
    refine goes_oper_k rfl rfl (by decide) (fun K hK => ?_)
    go_simp
    refine hK _ _ ⟨⟨Nat.le_refl _, fun e he => ?_⟩, Ok.at ?_⟩
    · have hm := mem_listed he
      simp [go_sem] at hm
    clear hK K d
    refine Ok.step rfl (fun _ h₁ => ?_)
    obtain ⟨d, rfl⟩ := h₁
    refine goes_oper_k rfl rfl (by decide) (fun K hK => ?_)
    go_simp
    refine hK _ _ ⟨⟨Nat.le_refl _, fun e he => ?_⟩, Ok.at ?_⟩
    · have hm := mem_listed he
      simp [go_sem] at hm
    clear hK K d
    refine Ok.step rfl (fun _ h₁ => ?_)
    obtain ⟨d, rfl⟩ := h₁
    refine goes_oper_k rfl rfl (by decide) (fun K hK => ?_)
    go_simp
    refine hK _ _ ⟨⟨Nat.le_refl _, fun e he => ?_⟩, Ok.at ?_⟩
    · have hm := mem_listed he
      simp [go_sem] at hm
    clear hK K d
    refine Ok.step rfl (fun _ h₁ => ?_)
    obtain ⟨d, rfl⟩ := h₁
    refine goes_oper_k rfl rfl (by decide) (fun K hK => ?_)
    go_simp
    refine hK _ _ ⟨⟨Nat.le_refl _, fun e he => ?_⟩, Ok.at ?_⟩
    · have hm := mem_listed he
      simp [go_sem] at hm
    clear hK K d
    refine Ok.step rfl (fun _ h₁ => ?_)
    obtain ⟨d, rfl⟩ := h₁
    refine goes_oper_k rfl rfl (by decide) (fun K hK => ?_)
    go_simp
    refine hK _ _ ⟨⟨Nat.le_refl _, fun e he => ?_⟩, Ok.at ?_⟩
    · have hm := mem_listed he
      simp [go_sem] at hm
    clear hK K d
    refine Ok.step rfl (fun _ h₁ => ?_)
    obtain ⟨d, rfl⟩ := h₁
    refine goes_oper_k rfl rfl (by decide) (fun K hK => ?_)
    go_simp
    refine hK _ _ ⟨⟨Nat.le_refl _, fun e he => ?_⟩, Ok.at ?_⟩
    · have hm := mem_listed he
      simp [go_sem] at hm
    clear hK K d
    refine Ok.step rfl (fun _ h₁ => ?_)
    obtain ⟨d, rfl⟩ := h₁
    refine goes_oper_k rfl rfl (by decide) (fun K hK => ?_)
    go_simp
    refine hK _ _ ⟨⟨Nat.le_refl _, fun e he => ?_⟩, Ok.at ?_⟩
    · have hm := mem_listed he
      simp [go_sem] at hm
    clear hK K d
    refine Ok.step rfl (fun _ h₁ => ?_)
    obtain ⟨d, rfl⟩ := h₁
    refine goes_oper_k rfl rfl (by decide) (fun K hK => ?_)
    go_simp
    refine hK _ _ ⟨⟨Nat.le_refl _, fun e he => ?_⟩, Ok.at ?_⟩
    · have hm := mem_listed he
      simp [go_sem] at hm
    clear hK K d
    refine Ok.step rfl (fun _ h₁ => ?_)
    obtain ⟨d, rfl⟩ := h₁
    refine goes_oper_k rfl rfl (by decide) (fun K hK => ?_)
    go_simp
    refine hK _ _ ⟨⟨Nat.le_refl _, fun e he => ?_⟩, Ok.at ?_⟩
    · have hm := mem_listed he
      simp [go_sem] at hm
    clear hK K d
    refine Ok.step rfl (fun _ h₁ => ?_)
    obtain ⟨d, rfl⟩ := h₁
    refine goes_oper_k rfl rfl (by decide) (fun K hK => ?_)
    go_simp
    refine hK _ _ ⟨⟨Nat.le_refl _, fun e he => ?_⟩, Ok.at ?_⟩
    · have hm := mem_listed he
      simp [go_sem] at hm
    clear hK K d
    refine Ok.step rfl (fun _ h₁ => ?_)
    obtain ⟨d, rfl⟩ := h₁
    rw [stepG_region_end]
    simp only [goes_go]
    refine ⟨ok_none _, Ok.at ?_⟩
    clear d
    refine Ok.step rfl (fun _ h₁ => ?_)
    obtain ⟨d, rfl⟩ := h₁
    rw [stepG_cond (t := false) rfl]
    simp only [goes_go, if_true, if_false, Bool.false_eq_true, ↓reduceIte]
    refine ⟨ok_none _, Ok.at ?_⟩
    clear d
    refine Ok.step rfl (fun _ h₁ => ?_)
    obtain ⟨d, rfl⟩ := h₁
    rw [stepG_skip]
    simp only [goes_go]
    refine ⟨ok_none _, Ok.at ?_⟩
    clear d
    refine Ok.step rfl (fun _ h₁ => ?_)
    obtain ⟨d, rfl⟩ := h₁
    rw [stepG_seq]
    simp only [goes_go]
    refine ⟨ok_none _, Ok.at ?_⟩
    clear d
    refine Ok.step rfl (fun _ h₁ => ?_)
    obtain ⟨d, rfl⟩ := h₁
    rw [stepG_seq]
    simp only [goes_go]
    refine ⟨ok_none _, Ok.at ?_⟩
    clear d
    refine Ok.step rfl (fun _ h₁ => ?_)
    obtain ⟨d, rfl⟩ := h₁
    rw [stepG_region]
    simp only [goes_go, List.size_toArray, List.length_cons, List.length_nil, Nat.reduceAdd, Nat.zero_add, List.range, List.range.loop]
    refine ⟨ok_none _, Ok.at ?_⟩
    clear d
    refine Ok.step rfl (fun _ h₁ => ?_)
    obtain ⟨d, rfl⟩ := h₁
    refine goes_oper_k rfl rfl (by decide) (fun K hK => ?_)
    go_simp
    refine hK _ _ ⟨⟨Nat.le_refl _, fun e he => ?_⟩, Ok.at ?_⟩
    · have hm := mem_listed he
      simp [go_sem] at hm
    clear hK K d
    refine Ok.step rfl (fun _ h₁ => ?_)
    obtain ⟨d, rfl⟩ := h₁
    rw [stepG_region_end]
    simp only [goes_go]
    refine ⟨ok_none _, Ok.at ?_⟩
    clear d
    refine Ok.step rfl (fun _ h₁ => ?_)
    obtain ⟨d, rfl⟩ := h₁
    rw [stepG_block]
    simp only [goes_go]
    refine ⟨ok_none _, Ok.at ?_⟩
    clear d
    refine Ok.loop (InvP w7 a c M A N ga1 gc1 ga2 gc2) (MuS M.length 13) ⟨0, _, _, _, _, _, _, _, _, _, _, _, _, _, _, _, _, _, _, _, _, _, _, _, _, _, _, _, _, _, _, _, _, _, _, _, _, _, _, _, _, _, _, _, _, _, _, _, _, _, _, _, _, _, _, _, _, _, _, _, _, _, _, _, _, _, _, _, _, _, _, _, _, _, _, _, _, _, _, _, _, _, _, _, _, _, _, _, _, _, _, _, _, _, _, _, _, _, _, _, _, Nat.zero_le _, rfl, rfl⟩ ?_
    rintro _ _ ⟨i, u2, u4, u5, u6, u7, u8, u10, u14, u15, u16, u17, u18, u19, u20, u21, u22, u23, u24, u25, u26, u27, u28, u29, u30, u31, u32, u33, u34, u35, u36, u37, u38, u39, u40, u41, u42, u43, u44, u45, u46, u47, u48, u49, u50, u51, u52, u53, u54, u55, u56, u57, u58, u59, u60, u61, u62, u63, u64, u65, u66, u67, u68, u69, u70, u71, u72, u73, u74, u75, u76, u77, u78, u79, u80, u81, u82, u83, u84, u85, u86, u87, u88, u89, u90, u91, u92, u93, u94, u95, u96, u97, u98, u99, u100, u101, u102, u103, u104, u105, u106, hi, rfl, rfl⟩ hN
    refine Ok.step rfl (fun _ h₁ => ?_)
    obtain ⟨d, rfl⟩ := h₁
    rw [stepG_seq]
    simp only [goes_go]
    refine ⟨ok_none _, Ok.at ?_⟩
    clear d
    refine Ok.step rfl (fun _ h₁ => ?_)
    obtain ⟨d, rfl⟩ := h₁
    rw [stepG_seq]
    simp only [goes_go]
    refine ⟨ok_none _, Ok.at ?_⟩
    clear d
    refine Ok.step rfl (fun _ h₁ => ?_)
    obtain ⟨d, rfl⟩ := h₁
    rw [stepG_region]
    simp only [goes_go, List.size_toArray, List.length_cons, List.length_nil, Nat.reduceAdd, Nat.zero_add, List.range, List.range.loop]
    refine ⟨ok_none _, Ok.at ?_⟩
    clear d
    refine Ok.step rfl (fun _ h₁ => ?_)
    obtain ⟨d, rfl⟩ := h₁
    refine goes_oper_k rfl rfl (by decide) (fun K hK => ?_)
    go_simp
    refine hK _ _ ⟨⟨Nat.le_refl _, fun e he => ?_⟩, Ok.at ?_⟩
    · have hm := mem_listed he
      simp [go_sem] at hm
    clear hK K d
    refine Ok.step rfl (fun _ h₁ => ?_)
    obtain ⟨d, rfl⟩ := h₁
    refine goes_oper_k rfl rfl (by decide) (fun K hK => ?_)
    go_simp
    refine hK _ _ ⟨⟨Nat.le_refl _, fun e he => ?_⟩, Ok.at ?_⟩
    · have hm := mem_listed he
      simp [go_sem] at hm
    clear hK K d
    refine Ok.step rfl (fun _ h₁ => ?_)
    obtain ⟨d, rfl⟩ := h₁
    refine goes_oper_k rfl rfl (by decide) (fun K hK => ?_)
    go_simp
    refine hK _ _ ⟨⟨Nat.le_refl _, fun e he => ?_⟩, Ok.at ?_⟩
    · have hm := mem_listed he
      simp [go_sem] at hm
    clear hK K d
    cases hlt : decide (i < M.length)
    ·
      have hge : M.length ≤ i := Nat.le_of_not_lt (of_decide_eq_false hlt)
      refine Ok.step rfl (fun _ h₁ => ?_)
      obtain ⟨d, rfl⟩ := h₁
      refine goes_oper_k rfl rfl (by decide) (fun K hK => ?_)
      have f0 := hlt
      go_simp
      refine hK _ _ ⟨⟨Nat.le_refl _, fun e he => ?_⟩, Ok.at ?_⟩
      · have hm := mem_listed he
        simp [go_sem, f0] at hm
      clear hK K f0 d
      refine Ok.step rfl (fun _ h₁ => ?_)
      obtain ⟨d, rfl⟩ := h₁
      rw [stepG_region_end]
      simp only [goes_go]
      refine ⟨ok_none _, Ok.at ?_⟩
      clear d
      refine Ok.step rfl (fun _ h₁ => ?_)
      obtain ⟨d, rfl⟩ := h₁
      rw [stepG_cond (t := false) rfl]
      simp only [goes_go, if_true, if_false, Bool.false_eq_true, ↓reduceIte]
      refine ⟨ok_none _, Ok.at ?_⟩
      clear d
      refine Ok.step rfl (fun _ h₁ => ?_)
      obtain ⟨d, rfl⟩ := h₁
      refine goes_exit rfl ?_
      refine ⟨ok_none _, Ok.at ?_⟩
      clear d
      refine Ok.step rfl (fun _ h₁ => ?_)
      obtain ⟨d, rfl⟩ := h₁
      rw [stepG_seq]
      simp only [goes_go]
      refine ⟨ok_none _, Ok.at ?_⟩
      clear d
      refine Ok.step rfl (fun _ h₁ => ?_)
      obtain ⟨d, rfl⟩ := h₁
      rw [stepG_region]
      simp only [goes_go, List.size_toArray, List.length_cons, List.length_nil, Nat.reduceAdd, Nat.zero_add, List.range, List.range.loop]
      refine ⟨ok_none _, Ok.at ?_⟩
      clear d
      refine Ok.step rfl (fun _ h₁ => ?_)
      obtain ⟨d, rfl⟩ := h₁
      refine goes_oper_k rfl rfl (by decide) (fun K hK => ?_)
      go_simp
      refine hK _ _ ⟨⟨Nat.le_refl _, fun e he => ?_⟩, Ok.at ?_⟩
      · have hm := mem_listed he
        simp [go_sem] at hm
      clear hK K d
      refine Ok.step rfl (fun _ h₁ => ?_)
      obtain ⟨d, rfl⟩ := h₁
      refine goes_oper_k rfl rfl (by decide) (fun K hK => ?_)
      go_simp
      refine hK _ _ ⟨⟨Nat.le_refl _, fun e he => ?_⟩, Ok.at ?_⟩
      · have hm := mem_listed he
        simp [go_sem] at hm
      clear hK K d
      refine Ok.step rfl (fun _ h₁ => ?_)
      obtain ⟨d, rfl⟩ := h₁
      rw [stepG_region_end]
      simp only [goes_go]
      refine ⟨ok_none _, Ok.at ?_⟩
      clear d
      refine Ok.step rfl (fun _ h₁ => ?_)
      obtain ⟨d, rfl⟩ := h₁
      rw [stepG_ret']
      simp only [goes_go]
      refine ⟨ok_none _, Ok.at ?_⟩
      clear d
      exact Ok.top (fn := Try.f6) Try.func6 (by kernel_rfl) rfl (v := .bool true) (resultsC_tmp (fn := Try.f6) (t := 8) rfl _) (fun d => ⟨rfl, _, (E7).at d⟩)
    ·
      have hlt' : i < M.length := of_decide_eq_true hlt
      obtain ⟨bs, hB⟩ : ∃ bs, M[i]? = some bs := ⟨_, List.getElem?_eq_getElem hlt'⟩
      obtain ⟨b, off, ra, rc, hla, hb, ho, hc, hr1⟩ := hRM.at hB
      obtain ⟨g, va, vc, hga, hgb, hgo, hgk, hgv, hgr⟩ := hg1.at' HL1.out (pair_at h1a HB1.out (by rw [HL1.out]; exact hlt') hB)
      subst hla hga
      have q2 : (0 : Int) ≤ (i : Int) ∧ (i : Int) < (M.length : Int) := ⟨by omega, by omega⟩
      have q5 := wrap_succ (i := i) (by omega)
      refine Ok.step rfl (fun _ h₁ => ?_)
      obtain ⟨d, rfl⟩ := h₁
      refine goes_oper_k rfl rfl (by decide) (fun K hK => ?_)
      have f0 := hlt
      go_simp
      refine hK _ _ ⟨⟨Nat.le_refl _, fun e he => ?_⟩, Ok.at ?_⟩
      · have hm := mem_listed he
        simp [go_sem, f0] at hm
      clear hK K f0 d
      refine Ok.step rfl (fun _ h₁ => ?_)
      obtain ⟨d, rfl⟩ := h₁
      rw [stepG_region_end]
      simp only [goes_go]
      refine ⟨ok_none _, Ok.at ?_⟩
      clear d
      refine Ok.step rfl (fun _ h₁ => ?_)
      obtain ⟨d, rfl⟩ := h₁
      rw [stepG_cond (t := true) rfl]
      simp only [goes_go, if_true, if_false, Bool.false_eq_true, ↓reduceIte]
      refine ⟨ok_none _, Ok.at ?_⟩
      clear d
      refine Ok.step rfl (fun _ h₁ => ?_)
      obtain ⟨d, rfl⟩ := h₁
      rw [stepG_skip]
      simp only [goes_go]
      refine ⟨ok_none _, Ok.at ?_⟩
      clear d
      refine Ok.step rfl (fun _ h₁ => ?_)
      obtain ⟨d, rfl⟩ := h₁
      rw [stepG_seq]
      simp only [goes_go]
      refine ⟨ok_none _, Ok.at ?_⟩
      clear d
      refine Ok.step rfl (fun _ h₁ => ?_)
      obtain ⟨d, rfl⟩ := h₁
      rw [stepG_block]
      simp only [goes_go]
      refine ⟨ok_none _, Ok.at ?_⟩
      clear d
      refine Ok.step rfl (fun _ h₁ => ?_)
      obtain ⟨d, rfl⟩ := h₁
      rw [stepG_seq]
      simp only [goes_go]
      refine ⟨ok_none _, Ok.at ?_⟩
      clear d
      cases hin : decide (i < N)
      ·
        refine Ok.vals (by first | kernel_rfl | rfl) (by decide) ?_
        simp only [List.size_toArray, List.length_cons, List.length_nil, Nat.reduceAdd, Nat.zero_add]
        co_applyP anyO_take (i := 0) rfl (by first | kernel_rfl | decide +kernel) (by first | kernel_rfl | decide +kernel) (by first | kernel_rfl | decide +kernel) (.inl ⟨by rfl, .inl fun d => ⟨run_eq_of ?runf0, ?evf0⟩⟩) ?restf0
        case runf0 =>
          intro K hK
          go_simp
          exact hK
        case evf0 =>
          intro e he
          simp [go_sem] at he
        walk_nrm
        co_applyP anyO_take (i := 1) rfl (by first | kernel_rfl | decide +kernel) (by first | kernel_rfl | decide +kernel) (by first | kernel_rfl | decide +kernel) (.inl ⟨by rfl, .inl fun d => ⟨run_eq_of ?runf1, ?evf1⟩⟩) ?restf1
        case runf1 =>
          intro K hK
          go_simp
          exact hK
        case evf1 =>
          intro e he
          simp [go_sem] at he
        walk_nrm
        co_applyP anyO_take (i := 2) rfl (by first | kernel_rfl | decide +kernel) (by first | kernel_rfl | decide +kernel) (by first | kernel_rfl | decide +kernel) (.inl ⟨by rfl, .inl fun d => ⟨run_eq_of ?runf2, ?evf2⟩⟩) ?restf2
        case runf2 =>
          intro K hK
          go_simp
          exact hK
        case evf2 =>
          intro e he
          simp [go_sem, q2] at he
        walk_nrm
        co_applyP anyO_take (i := 3) rfl (by first | kernel_rfl | decide +kernel) (by first | kernel_rfl | decide +kernel) (by first | kernel_rfl | decide +kernel) (.inl ⟨by rfl, .inl fun d => ⟨run_eq_of ?runf3, ?evf3⟩⟩) ?restf3
        case runf3 =>
          intro K hK
          go_simp
          exact hK
        case evf3 =>
          intro e he
          simp [go_sem] at he
        walk_nrm
        co_applyP anyO_take (i := 4) rfl (by first | kernel_rfl | decide +kernel) (by first | kernel_rfl | decide +kernel) (by first | kernel_rfl | decide +kernel) (.inl ⟨by rfl, .inl fun d => ⟨run_eq_of ?runf4, ?evf4⟩⟩) ?restf4
        case runf4 =>
          intro K hK
          have f0 : (w7.at d).cell? ⟨g, i * 2, none⟩ = some (.int .i64 (A : Int)) := hgk
          go_simp
          exact hK
        case evf4 =>
          intro e he
          have f0 : (w7.at d).cell? ⟨g, i * 2, none⟩ = some (.int .i64 (A : Int)) := hgk
          simp [go_sem, f0] at he
          subst he
          exact evO_cell hgb hgo
        walk_nrm
        co_applyP anyO_take (i := 5) rfl (by first | kernel_rfl | decide +kernel) (by first | kernel_rfl | decide +kernel) (by first | kernel_rfl | decide +kernel) (.inl ⟨by rfl, .inl fun d => ⟨run_eq_of ?runf5, ?evf5⟩⟩) ?restf5
        case runf5 =>
          intro K hK
          go_simp
          exact hK
        case evf5 =>
          intro e he
          simp [go_sem] at he
        walk_nrm
        co_applyP anyO_take (i := 6) rfl (by first | kernel_rfl | decide +kernel) (by first | kernel_rfl | decide +kernel) (by first | kernel_rfl | decide +kernel) (.inl ⟨by rfl, .inl fun d => ⟨run_eq_of ?runf6, ?evf6⟩⟩) ?restf6
        case runf6 =>
          intro K hK
          go_simp
          exact hK
        case evf6 =>
          intro e he
          simp [go_sem] at he
        walk_nrm
        co_applyP anyO_take (i := 7) rfl (by first | kernel_rfl | decide +kernel) (by first | kernel_rfl | decide +kernel) (by first | kernel_rfl | decide +kernel) (.inl ⟨by rfl, .inl fun d => ⟨run_eq_of ?runf7, ?evf7⟩⟩) ?restf7
        case runf7 =>
          intro K hK
          go_simp
          exact hK
        case evf7 =>
          intro e he
          simp [go_sem] at he
        walk_nrm
        co_applyP anyO_take (i := 8) rfl (by first | kernel_rfl | decide +kernel) (by first | kernel_rfl | decide +kernel) (by first | kernel_rfl | decide +kernel) (.inl ⟨by rfl, .inl fun d => ⟨run_eq_of ?runf8, ?evf8⟩⟩) ?restf8
        case runf8 =>
          intro K hK
          go_simp
          exact hK
        case evf8 =>
          intro e he
          simp [go_sem] at he
        walk_nrm
        co_applyP anyO_take (i := 9) rfl (by first | kernel_rfl | decide +kernel) (by first | kernel_rfl | decide +kernel) (by first | kernel_rfl | decide +kernel) (.inl ⟨by rfl, .inl fun d => ⟨run_eq_of ?runf9, ?evf9⟩⟩) ?restf9
        case runf9 =>
          intro K hK
          go_simp
          exact hK
        case evf9 =>
          intro e he
          simp [go_sem] at he
        walk_nrm
        co_applyP anyO_take (i := 10) rfl (by first | kernel_rfl | decide +kernel) (by first | kernel_rfl | decide +kernel) (by first | kernel_rfl | decide +kernel) (.inl ⟨by rfl, .inl fun d => ⟨run_eq_of ?runf10, ?evf10⟩⟩) ?restf10
        case runf10 =>
          intro K hK
          go_simp
          exact hK
        case evf10 =>
          intro e he
          simp [go_sem, q2] at he
        walk_nrm
        co_applyP anyO_take (i := 11) rfl (by first | kernel_rfl | decide +kernel) (by first | kernel_rfl | decide +kernel) (by first | kernel_rfl | decide +kernel) (.inl ⟨by rfl, .inl fun d => ⟨run_eq_of ?runf11, ?evf11⟩⟩) ?restf11
        case runf11 =>
          intro K hK
          go_simp
          exact hK
        case evf11 =>
          intro e he
          simp [go_sem] at he
        walk_nrm
        co_applyP anyO_take (i := 12) rfl (by first | kernel_rfl | decide +kernel) (by first | kernel_rfl | decide +kernel) (by first | kernel_rfl | decide +kernel) (.inl ⟨by rfl, .inl fun d => ⟨run_eq_of ?runf12, ?evf12⟩⟩) ?restf12
        case runf12 =>
          intro K hK
          have f0 : (w7.at d).cell? ⟨g, i * 2 + 1, none⟩ = some (.slice va bs.length vc) := hgv
          go_simp
          exact hK
        case evf12 =>
          intro e he
          have f0 : (w7.at d).cell? ⟨g, i * 2 + 1, none⟩ = some (.slice va bs.length vc) := hgv
          simp [go_sem, f0] at he
          subst he
          exact evO_cell hgb hgo
        walk_nrm
        co_applyP anyO_take (i := 13) rfl (by first | kernel_rfl | decide +kernel) (by first | kernel_rfl | decide +kernel) (by first | kernel_rfl | decide +kernel) (.inl ⟨by rfl, .inl fun d => ⟨run_eq_of ?runf13, ?evf13⟩⟩) ?restf13
        case runf13 =>
          intro K hK
          go_simp
          exact hK
        case evf13 =>
          intro e he
          simp [go_sem] at he
        walk_nrm
        co_applyP anyO_take (i := 14) rfl (by first | kernel_rfl | decide +kernel) (by first | kernel_rfl | decide +kernel) (by first | kernel_rfl | decide +kernel) (.inl ⟨by rfl, .inl fun d => ⟨run_eq_of ?runf14, ?evf14⟩⟩) ?restf14
        case runf14 =>
          intro K hK
          go_simp
          exact hK
        case evf14 =>
          intro e he
          simp [go_sem] at he
        walk_nrm
        co_applyP anyO_take (i := 15) rfl (by first | kernel_rfl | decide +kernel) (by first | kernel_rfl | decide +kernel) (by first | kernel_rfl | decide +kernel) (.inl ⟨by rfl, .inl fun d => ⟨run_eq_of ?runf15, ?evf15⟩⟩) ?restf15
        case runf15 =>
          intro K hK
          go_simp
          exact hK
        case evf15 =>
          intro e he
          simp [go_sem, q2] at he
        walk_nrm
        co_applyP anyO_take (i := 16) rfl (by first | kernel_rfl | decide +kernel) (by first | kernel_rfl | decide +kernel) (by first | kernel_rfl | decide +kernel) (.inl ⟨by rfl, .inl fun d => ⟨run_eq_of ?runf16, ?evf16⟩⟩) ?restf16
        case runf16 =>
          intro K hK
          have f0 : (w7.at d).cell? ⟨b, off + i, none⟩ = some (.slice ra bs.length rc) := hc
          go_simp
          exact hK
        case evf16 =>
          intro e he
          have f0 : (w7.at d).cell? ⟨b, off + i, none⟩ = some (.slice ra bs.length rc) := hc
          simp [go_sem, f0] at he
          subst he
          exact evO_cell hb ho
        walk_nrm
        refine anyO_take (i := 17) rfl (by first | kernel_rfl | decide +kernel) (by first | kernel_rfl | decide +kernel) (by first | kernel_rfl | decide +kernel) (yv_call (by rfl) rfl Try.func15 nm_same rfl (by simp only [List.map_toArray, List.map_cons, List.map_nil]; rfl) (same_yes hgr hr1)) ?_
        walk_nrm
        co_applyP anyO_take (i := 18) rfl (by first | kernel_rfl | decide +kernel) (by first | kernel_rfl | decide +kernel) (by first | kernel_rfl | decide +kernel) (.inl ⟨by rfl, .inl fun d => ⟨run_eq_of ?runf18, ?evf18⟩⟩) ?restf18
        case runf18 =>
          intro K hK
          go_simp
          exact hK
        case evf18 =>
          intro e he
          simp [go_sem] at he
        walk_nrm
        co_applyP anyO_take (i := 19) rfl (by first | kernel_rfl | decide +kernel) (by first | kernel_rfl | decide +kernel) (by first | kernel_rfl | decide +kernel) (.inl ⟨by rfl, .inl fun d => ⟨run_eq_of ?runf19, ?evf19⟩⟩) ?restf19
        case runf19 =>
          intro K hK
          go_simp
          exact hK
        case evf19 =>
          intro e he
          simp [go_sem] at he
        walk_nrm
        co_applyP anyO_take (i := 20) rfl (by first | kernel_rfl | decide +kernel) (by first | kernel_rfl | decide +kernel) (by first | kernel_rfl | decide +kernel) (.inl ⟨by rfl, .inl fun d => ⟨run_eq_of ?runf20, ?evf20⟩⟩) ?restf20
        case runf20 =>
          intro K hK
          go_simp
          exact hK
        case evf20 =>
          intro e he
          simp [go_sem] at he
        walk_nrm
        co_applyP anyO_take (i := 21) rfl (by first | kernel_rfl | decide +kernel) (by first | kernel_rfl | decide +kernel) (by first | kernel_rfl | decide +kernel) (.inl ⟨by rfl, .inl fun d => ⟨run_eq_of ?runf21, ?evf21⟩⟩) ?restf21
        case runf21 =>
          intro K hK
          go_simp
          exact hK
        case evf21 =>
          intro e he
          simp [go_sem] at he
        walk_nrm
        co_applyP anyO_take (i := 22) rfl (by first | kernel_rfl | decide +kernel) (by first | kernel_rfl | decide +kernel) (by first | kernel_rfl | decide +kernel) (.inl ⟨by rfl, .inl fun d => ⟨run_eq_of ?runf22, ?evf22⟩⟩) ?restf22
        case runf22 =>
          intro K hK
          go_simp
          exact hK
        case evf22 =>
          intro e he
          simp [go_sem] at he
        walk_nrm
        co_applyP anyO_take (i := 23) rfl (by first | kernel_rfl | decide +kernel) (by first | kernel_rfl | decide +kernel) (by first | kernel_rfl | decide +kernel) (.inl ⟨by rfl, .inl fun d => ⟨run_eq_of ?runf23, ?evf23⟩⟩) ?restf23
        case runf23 =>
          intro K hK
          go_simp
          exact hK
        case evf23 =>
          intro e he
          simp [go_sem, hin] at he
        walk_nrm
        co_applyP anyO_take (i := 24) rfl (by first | kernel_rfl | decide +kernel) (by first | kernel_rfl | decide +kernel) (by first | kernel_rfl | decide +kernel) (.inl ⟨by rfl, .inl fun d => ⟨run_eq_of ?runf24, ?evf24⟩⟩) ?restf24
        case runf24 =>
          intro K hK
          go_simp
          exact hK
        case evf24 =>
          intro e he
          simp [go_sem] at he
        walk_nrm
        co_applyP anyO_take (i := 25) rfl (by first | kernel_rfl | decide +kernel) (by first | kernel_rfl | decide +kernel) (by first | kernel_rfl | decide +kernel) (.inr ⟨by rfl, rfl⟩) ?restf25
        walk_nrm
        co_applyP anyO_take (i := 26) rfl (by first | kernel_rfl | decide +kernel) (by first | kernel_rfl | decide +kernel) (by first | kernel_rfl | decide +kernel) (.inr ⟨by rfl, rfl⟩) ?restf26
        walk_nrm
        co_applyP anyO_take (i := 27) rfl (by first | kernel_rfl | decide +kernel) (by first | kernel_rfl | decide +kernel) (by first | kernel_rfl | decide +kernel) (.inr ⟨by rfl, rfl⟩) ?restf27
        walk_nrm
        co_applyP anyO_take (i := 28) rfl (by first | kernel_rfl | decide +kernel) (by first | kernel_rfl | decide +kernel) (by first | kernel_rfl | decide +kernel) (.inr ⟨by rfl, rfl⟩) ?restf28
        walk_nrm
        co_applyP anyO_take (i := 29) rfl (by first | kernel_rfl | decide +kernel) (by first | kernel_rfl | decide +kernel) (by first | kernel_rfl | decide +kernel) (.inr ⟨by rfl, rfl⟩) ?restf29
        walk_nrm
        co_applyP anyO_take (i := 30) rfl (by first | kernel_rfl | decide +kernel) (by first | kernel_rfl | decide +kernel) (by first | kernel_rfl | decide +kernel) (.inr ⟨by rfl, rfl⟩) ?restf30
        walk_nrm
        co_applyP anyO_take (i := 31) rfl (by first | kernel_rfl | decide +kernel) (by first | kernel_rfl | decide +kernel) (by first | kernel_rfl | decide +kernel) (.inr ⟨by rfl, rfl⟩) ?restf31
        walk_nrm
        co_applyP anyO_take (i := 32) rfl (by first | kernel_rfl | decide +kernel) (by first | kernel_rfl | decide +kernel) (by first | kernel_rfl | decide +kernel) (.inr ⟨by rfl, rfl⟩) ?restf32
        walk_nrm
        co_applyP anyO_take (i := 33) rfl (by first | kernel_rfl | decide +kernel) (by first | kernel_rfl | decide +kernel) (by first | kernel_rfl | decide +kernel) (.inr ⟨by rfl, rfl⟩) ?restf33
        walk_nrm
        co_applyP anyO_take (i := 34) rfl (by first | kernel_rfl | decide +kernel) (by first | kernel_rfl | decide +kernel) (by first | kernel_rfl | decide +kernel) (.inr ⟨by rfl, rfl⟩) ?restf34
        walk_nrm
        co_applyP anyO_take (i := 35) rfl (by first | kernel_rfl | decide +kernel) (by first | kernel_rfl | decide +kernel) (by first | kernel_rfl | decide +kernel) (.inr ⟨by rfl, rfl⟩) ?restf35
        walk_nrm
        co_applyP anyO_take (i := 36) rfl (by first | kernel_rfl | decide +kernel) (by first | kernel_rfl | decide +kernel) (by first | kernel_rfl | decide +kernel) (.inr ⟨by rfl, rfl⟩) ?restf36
        walk_nrm
        co_applyP anyO_take (i := 37) rfl (by first | kernel_rfl | decide +kernel) (by first | kernel_rfl | decide +kernel) (by first | kernel_rfl | decide +kernel) (.inr ⟨by rfl, rfl⟩) ?restf37
        walk_nrm
        co_applyP anyO_take (i := 38) rfl (by first | kernel_rfl | decide +kernel) (by first | kernel_rfl | decide +kernel) (by first | kernel_rfl | decide +kernel) (.inr ⟨by rfl, rfl⟩) ?restf38
        walk_nrm
        co_applyP anyO_take (i := 39) rfl (by first | kernel_rfl | decide +kernel) (by first | kernel_rfl | decide +kernel) (by first | kernel_rfl | decide +kernel) (.inr ⟨by rfl, rfl⟩) ?restf39
        walk_nrm
        co_applyP anyO_take (i := 40) rfl (by first | kernel_rfl | decide +kernel) (by first | kernel_rfl | decide +kernel) (by first | kernel_rfl | decide +kernel) (.inr ⟨by rfl, rfl⟩) ?restf40
        walk_nrm
        co_applyP anyO_take (i := 41) rfl (by first | kernel_rfl | decide +kernel) (by first | kernel_rfl | decide +kernel) (by first | kernel_rfl | decide +kernel) (.inr ⟨by rfl, rfl⟩) ?restf41
        walk_nrm
        co_applyP anyO_take (i := 42) rfl (by first | kernel_rfl | decide +kernel) (by first | kernel_rfl | decide +kernel) (by first | kernel_rfl | decide +kernel) (.inr ⟨by rfl, rfl⟩) ?restf42
        walk_nrm
        co_applyP anyO_take (i := 43) rfl (by first | kernel_rfl | decide +kernel) (by first | kernel_rfl | decide +kernel) (by first | kernel_rfl | decide +kernel) (.inr ⟨by rfl, rfl⟩) ?restf43
        walk_nrm
        co_applyP anyO_take (i := 44) rfl (by first | kernel_rfl | decide +kernel) (by first | kernel_rfl | decide +kernel) (by first | kernel_rfl | decide +kernel) (.inr ⟨by rfl, rfl⟩) ?restf44
        walk_nrm
        co_applyP anyO_take (i := 45) rfl (by first | kernel_rfl | decide +kernel) (by first | kernel_rfl | decide +kernel) (by first | kernel_rfl | decide +kernel) (.inl ⟨by rfl, .inl fun d => ⟨run_eq_of ?runf45, ?evf45⟩⟩) ?restf45
        case runf45 =>
          intro K hK
          go_simp
          exact hK
        case evf45 =>
          intro e he
          simp [go_sem] at he
        walk_nrm
        co_applyP anyO_take (i := 46) rfl (by first | kernel_rfl | decide +kernel) (by first | kernel_rfl | decide +kernel) (by first | kernel_rfl | decide +kernel) (.inl ⟨by rfl, .inl fun d => ⟨run_eq_of ?runf46, ?evf46⟩⟩) ?restf46
        case runf46 =>
          intro K hK
          go_simp
          exact hK
        case evf46 =>
          intro e he
          simp [go_sem] at he
        walk_nrm
        refine anyO_done (by first | kernel_rfl | decide +kernel) ?_ _
        refine Ok.step rfl (fun _ h₁ => ?_)
        obtain ⟨d, rfl⟩ := h₁
        rw [stepG_region_end]
        simp only [goes_go]
        refine ⟨ok_none _, Ok.at ?_⟩
        clear d
        refine Ok.step rfl (fun _ h₁ => ?_)
        obtain ⟨d, rfl⟩ := h₁
        rw [stepG_cond (t := false) rfl]
        simp only [goes_go, if_true, if_false, Bool.false_eq_true, ↓reduceIte]
        refine ⟨ok_none _, Ok.at ?_⟩
        clear d
        refine Ok.step rfl (fun _ h₁ => ?_)
        obtain ⟨d, rfl⟩ := h₁
        rw [stepG_skip]
        simp only [goes_go]
        refine ⟨ok_none _, Ok.at ?_⟩
        clear d
        refine Ok.step rfl (fun _ h₁ => ?_)
        obtain ⟨d, rfl⟩ := h₁
        rw [stepG_inBlock]
        simp only [goes_go]
        refine ⟨ok_none _, Ok.at ?_⟩
        clear d
        refine Ok.step rfl (fun _ h₁ => ?_)
        obtain ⟨d, rfl⟩ := h₁
        rw [stepG_region]
        simp only [goes_go, List.size_toArray, List.length_cons, List.length_nil, Nat.reduceAdd, Nat.zero_add, List.range, List.range.loop]
        refine ⟨ok_none _, Ok.at ?_⟩
        clear d
        refine Ok.step rfl (fun _ h₁ => ?_)
        obtain ⟨d, rfl⟩ := h₁
        refine goes_oper_k rfl rfl (by decide) (fun K hK => ?_)
        go_simp
        refine hK _ _ ⟨⟨Nat.le_refl _, fun e he => ?_⟩, Ok.at ?_⟩
        · have hm := mem_listed he
          simp [go_sem] at hm
        clear hK K d
        refine Ok.step rfl (fun _ h₁ => ?_)
        obtain ⟨d, rfl⟩ := h₁
        refine goes_oper_k rfl rfl (by decide) (fun K hK => ?_)
        have f0 := q5
        go_simp
        refine hK _ _ ⟨⟨Nat.le_refl _, fun e he => ?_⟩, Ok.at ?_⟩
        · have hm := mem_listed he
          simp [go_sem, f0] at hm
        clear hK K f0 d
        refine Ok.step rfl (fun _ h₁ => ?_)
        obtain ⟨d, rfl⟩ := h₁
        refine goes_oper_k rfl rfl (by decide) (fun K hK => ?_)
        go_simp
        refine hK _ _ ⟨⟨Nat.le_refl _, fun e he => ?_⟩, Ok.at ?_⟩
        · have hm := mem_listed he
          simp [go_sem] at hm
        clear hK K d
        refine Ok.step rfl (fun _ h₁ => ?_)
        obtain ⟨d, rfl⟩ := h₁
        rw [stepG_region_end]
        simp only [goes_go]
        refine ⟨ok_none _, Ok.at ?_⟩
        clear d
        exact hN _ _ ⟨i + 1, _, _, _, _, _, _, _, _, _, _, _, _, _, _, _, _, _, _, _, _, _, _, _, _, _, _, _, _, _, _, _, _, _, _, _, _, _, _, _, _, _, _, _, _, _, _, _, _, _, _, _, _, _, _, _, _, _, _, _, _, _, _, _, _, _, _, _, _, _, _, _, _, _, _, _, _, _, _, _, _, _, _, _, _, _, _, _, _, _, _, _, _, _, _, _, _, _, _, _, _, by omega, rfl, rfl⟩ (by simp [MuS]; omega)
      ·
        have hin' : i < N := of_decide_eq_true hin
        obtain ⟨g2, va2, vc2, hga2, hgb2, hgo2, hgk2, hgv2, hgr2⟩ := hg2.at' HL2.out (pair_at h2a HB2.out (by rw [HL2.out]; exact hin') hB)
        subst hga2
        have q3 : (0 : Int) ≤ (i : Int) ∧ (i : Int) < (N : Int) := ⟨by omega, by omega⟩
        refine Ok.vals (by first | kernel_rfl | rfl) (by decide) ?_
        simp only [List.size_toArray, List.length_cons, List.length_nil, Nat.reduceAdd, Nat.zero_add]
        co_applyP anyO_take (i := 0) rfl (by first | kernel_rfl | decide +kernel) (by first | kernel_rfl | decide +kernel) (by first | kernel_rfl | decide +kernel) (.inl ⟨by rfl, .inl fun d => ⟨run_eq_of ?runt0, ?evt0⟩⟩) ?restt0
        case runt0 =>
          intro K hK
          go_simp
          exact hK
        case evt0 =>
          intro e he
          simp [go_sem] at he
        walk_nrm
        co_applyP anyO_take (i := 1) rfl (by first | kernel_rfl | decide +kernel) (by first | kernel_rfl | decide +kernel) (by first | kernel_rfl | decide +kernel) (.inl ⟨by rfl, .inl fun d => ⟨run_eq_of ?runt1, ?evt1⟩⟩) ?restt1
        case runt1 =>
          intro K hK
          go_simp
          exact hK
        case evt1 =>
          intro e he
          simp [go_sem] at he
        walk_nrm
        co_applyP anyO_take (i := 2) rfl (by first | kernel_rfl | decide +kernel) (by first | kernel_rfl | decide +kernel) (by first | kernel_rfl | decide +kernel) (.inl ⟨by rfl, .inl fun d => ⟨run_eq_of ?runt2, ?evt2⟩⟩) ?restt2
        case runt2 =>
          intro K hK
          go_simp
          exact hK
        case evt2 =>
          intro e he
          simp [go_sem, q2] at he
        walk_nrm
        co_applyP anyO_take (i := 3) rfl (by first | kernel_rfl | decide +kernel) (by first | kernel_rfl | decide +kernel) (by first | kernel_rfl | decide +kernel) (.inl ⟨by rfl, .inl fun d => ⟨run_eq_of ?runt3, ?evt3⟩⟩) ?restt3
        case runt3 =>
          intro K hK
          go_simp
          exact hK
        case evt3 =>
          intro e he
          simp [go_sem] at he
        walk_nrm
        co_applyP anyO_take (i := 4) rfl (by first | kernel_rfl | decide +kernel) (by first | kernel_rfl | decide +kernel) (by first | kernel_rfl | decide +kernel) (.inl ⟨by rfl, .inl fun d => ⟨run_eq_of ?runt4, ?evt4⟩⟩) ?restt4
        case runt4 =>
          intro K hK
          have f0 : (w7.at d).cell? ⟨g, i * 2, none⟩ = some (.int .i64 (A : Int)) := hgk
          go_simp
          exact hK
        case evt4 =>
          intro e he
          have f0 : (w7.at d).cell? ⟨g, i * 2, none⟩ = some (.int .i64 (A : Int)) := hgk
          simp [go_sem, f0] at he
          subst he
          exact evO_cell hgb hgo
        walk_nrm
        co_applyP anyO_take (i := 5) rfl (by first | kernel_rfl | decide +kernel) (by first | kernel_rfl | decide +kernel) (by first | kernel_rfl | decide +kernel) (.inl ⟨by rfl, .inl fun d => ⟨run_eq_of ?runt5, ?evt5⟩⟩) ?restt5
        case runt5 =>
          intro K hK
          go_simp
          exact hK
        case evt5 =>
          intro e he
          simp [go_sem] at he
        walk_nrm
        co_applyP anyO_take (i := 6) rfl (by first | kernel_rfl | decide +kernel) (by first | kernel_rfl | decide +kernel) (by first | kernel_rfl | decide +kernel) (.inl ⟨by rfl, .inl fun d => ⟨run_eq_of ?runt6, ?evt6⟩⟩) ?restt6
        case runt6 =>
          intro K hK
          go_simp
          exact hK
        case evt6 =>
          intro e he
          simp [go_sem] at he
        walk_nrm
        co_applyP anyO_take (i := 7) rfl (by first | kernel_rfl | decide +kernel) (by first | kernel_rfl | decide +kernel) (by first | kernel_rfl | decide +kernel) (.inl ⟨by rfl, .inl fun d => ⟨run_eq_of ?runt7, ?evt7⟩⟩) ?restt7
        case runt7 =>
          intro K hK
          go_simp
          exact hK
        case evt7 =>
          intro e he
          simp [go_sem] at he
        walk_nrm
        co_applyP anyO_take (i := 8) rfl (by first | kernel_rfl | decide +kernel) (by first | kernel_rfl | decide +kernel) (by first | kernel_rfl | decide +kernel) (.inl ⟨by rfl, .inl fun d => ⟨run_eq_of ?runt8, ?evt8⟩⟩) ?restt8
        case runt8 =>
          intro K hK
          go_simp
          exact hK
        case evt8 =>
          intro e he
          simp [go_sem] at he
        walk_nrm
        co_applyP anyO_take (i := 9) rfl (by first | kernel_rfl | decide +kernel) (by first | kernel_rfl | decide +kernel) (by first | kernel_rfl | decide +kernel) (.inl ⟨by rfl, .inl fun d => ⟨run_eq_of ?runt9, ?evt9⟩⟩) ?restt9
        case runt9 =>
          intro K hK
          go_simp
          exact hK
        case evt9 =>
          intro e he
          simp [go_sem] at he
        walk_nrm
        co_applyP anyO_take (i := 10) rfl (by first | kernel_rfl | decide +kernel) (by first | kernel_rfl | decide +kernel) (by first | kernel_rfl | decide +kernel) (.inl ⟨by rfl, .inl fun d => ⟨run_eq_of ?runt10, ?evt10⟩⟩) ?restt10
        case runt10 =>
          intro K hK
          go_simp
          exact hK
        case evt10 =>
          intro e he
          simp [go_sem, q2] at he
        walk_nrm
        co_applyP anyO_take (i := 11) rfl (by first | kernel_rfl | decide +kernel) (by first | kernel_rfl | decide +kernel) (by first | kernel_rfl | decide +kernel) (.inl ⟨by rfl, .inl fun d => ⟨run_eq_of ?runt11, ?evt11⟩⟩) ?restt11
        case runt11 =>
          intro K hK
          go_simp
          exact hK
        case evt11 =>
          intro e he
          simp [go_sem] at he
        walk_nrm
        co_applyP anyO_take (i := 12) rfl (by first | kernel_rfl | decide +kernel) (by first | kernel_rfl | decide +kernel) (by first | kernel_rfl | decide +kernel) (.inl ⟨by rfl, .inl fun d => ⟨run_eq_of ?runt12, ?evt12⟩⟩) ?restt12
        case runt12 =>
          intro K hK
          have f0 : (w7.at d).cell? ⟨g, i * 2 + 1, none⟩ = some (.slice va bs.length vc) := hgv
          go_simp
          exact hK
        case evt12 =>
          intro e he
          have f0 : (w7.at d).cell? ⟨g, i * 2 + 1, none⟩ = some (.slice va bs.length vc) := hgv
          simp [go_sem, f0] at he
          subst he
          exact evO_cell hgb hgo
        walk_nrm
        co_applyP anyO_take (i := 13) rfl (by first | kernel_rfl | decide +kernel) (by first | kernel_rfl | decide +kernel) (by first | kernel_rfl | decide +kernel) (.inl ⟨by rfl, .inl fun d => ⟨run_eq_of ?runt13, ?evt13⟩⟩) ?restt13
        case runt13 =>
          intro K hK
          go_simp
          exact hK
        case evt13 =>
          intro e he
          simp [go_sem] at he
        walk_nrm
        co_applyP anyO_take (i := 14) rfl (by first | kernel_rfl | decide +kernel) (by first | kernel_rfl | decide +kernel) (by first | kernel_rfl | decide +kernel) (.inl ⟨by rfl, .inl fun d => ⟨run_eq_of ?runt14, ?evt14⟩⟩) ?restt14
        case runt14 =>
          intro K hK
          go_simp
          exact hK
        case evt14 =>
          intro e he
          simp [go_sem] at he
        walk_nrm
        co_applyP anyO_take (i := 15) rfl (by first | kernel_rfl | decide +kernel) (by first | kernel_rfl | decide +kernel) (by first | kernel_rfl | decide +kernel) (.inl ⟨by rfl, .inl fun d => ⟨run_eq_of ?runt15, ?evt15⟩⟩) ?restt15
        case runt15 =>
          intro K hK
          go_simp
          exact hK
        case evt15 =>
          intro e he
          simp [go_sem, q2] at he
        walk_nrm
        co_applyP anyO_take (i := 16) rfl (by first | kernel_rfl | decide +kernel) (by first | kernel_rfl | decide +kernel) (by first | kernel_rfl | decide +kernel) (.inl ⟨by rfl, .inl fun d => ⟨run_eq_of ?runt16, ?evt16⟩⟩) ?restt16
        case runt16 =>
          intro K hK
          have f0 : (w7.at d).cell? ⟨b, off + i, none⟩ = some (.slice ra bs.length rc) := hc
          go_simp
          exact hK
        case evt16 =>
          intro e he
          have f0 : (w7.at d).cell? ⟨b, off + i, none⟩ = some (.slice ra bs.length rc) := hc
          simp [go_sem, f0] at he
          subst he
          exact evO_cell hb ho
        walk_nrm
        refine anyO_take (i := 17) rfl (by first | kernel_rfl | decide +kernel) (by first | kernel_rfl | decide +kernel) (by first | kernel_rfl | decide +kernel) (yv_call (by rfl) rfl Try.func15 nm_same rfl (by simp only [List.map_toArray, List.map_cons, List.map_nil]; rfl) (same_yes hgr hr1)) ?_
        walk_nrm
        co_applyP anyO_take (i := 18) rfl (by first | kernel_rfl | decide +kernel) (by first | kernel_rfl | decide +kernel) (by first | kernel_rfl | decide +kernel) (.inl ⟨by rfl, .inl fun d => ⟨run_eq_of ?runt18, ?evt18⟩⟩) ?restt18
        case runt18 =>
          intro K hK
          go_simp
          exact hK
        case evt18 =>
          intro e he
          simp [go_sem] at he
        walk_nrm
        co_applyP anyO_take (i := 19) rfl (by first | kernel_rfl | decide +kernel) (by first | kernel_rfl | decide +kernel) (by first | kernel_rfl | decide +kernel) (.inl ⟨by rfl, .inl fun d => ⟨run_eq_of ?runt19, ?evt19⟩⟩) ?restt19
        case runt19 =>
          intro K hK
          go_simp
          exact hK
        case evt19 =>
          intro e he
          simp [go_sem] at he
        walk_nrm
        co_applyP anyO_take (i := 20) rfl (by first | kernel_rfl | decide +kernel) (by first | kernel_rfl | decide +kernel) (by first | kernel_rfl | decide +kernel) (.inl ⟨by rfl, .inl fun d => ⟨run_eq_of ?runt20, ?evt20⟩⟩) ?restt20
        case runt20 =>
          intro K hK
          go_simp
          exact hK
        case evt20 =>
          intro e he
          simp [go_sem] at he
        walk_nrm
        co_applyP anyO_take (i := 21) rfl (by first | kernel_rfl | decide +kernel) (by first | kernel_rfl | decide +kernel) (by first | kernel_rfl | decide +kernel) (.inl ⟨by rfl, .inl fun d => ⟨run_eq_of ?runt21, ?evt21⟩⟩) ?restt21
        case runt21 =>
          intro K hK
          go_simp
          exact hK
        case evt21 =>
          intro e he
          simp [go_sem] at he
        walk_nrm
        co_applyP anyO_take (i := 22) rfl (by first | kernel_rfl | decide +kernel) (by first | kernel_rfl | decide +kernel) (by first | kernel_rfl | decide +kernel) (.inl ⟨by rfl, .inl fun d => ⟨run_eq_of ?runt22, ?evt22⟩⟩) ?restt22
        case runt22 =>
          intro K hK
          go_simp
          exact hK
        case evt22 =>
          intro e he
          simp [go_sem] at he
        walk_nrm
        co_applyP anyO_take (i := 23) rfl (by first | kernel_rfl | decide +kernel) (by first | kernel_rfl | decide +kernel) (by first | kernel_rfl | decide +kernel) (.inl ⟨by rfl, .inl fun d => ⟨run_eq_of ?runt23, ?evt23⟩⟩) ?restt23
        case runt23 =>
          intro K hK
          go_simp
          exact hK
        case evt23 =>
          intro e he
          simp [go_sem, hin] at he
        walk_nrm
        co_applyP anyO_take (i := 24) rfl (by first | kernel_rfl | decide +kernel) (by first | kernel_rfl | decide +kernel) (by first | kernel_rfl | decide +kernel) (.inl ⟨by rfl, .inl fun d => ⟨run_eq_of ?runt24, ?evt24⟩⟩) ?restt24
        case runt24 =>
          intro K hK
          go_simp
          exact hK
        case evt24 =>
          intro e he
          simp [go_sem] at he
        walk_nrm
        co_applyP anyO_take (i := 25) rfl (by first | kernel_rfl | decide +kernel) (by first | kernel_rfl | decide +kernel) (by first | kernel_rfl | decide +kernel) (.inl ⟨by rfl, .inl fun d => ⟨run_eq_of ?runt25, ?evt25⟩⟩) ?restt25
        case runt25 =>
          intro K hK
          go_simp
          exact hK
        case evt25 =>
          intro e he
          simp [go_sem] at he
        walk_nrm
        co_applyP anyO_take (i := 26) rfl (by first | kernel_rfl | decide +kernel) (by first | kernel_rfl | decide +kernel) (by first | kernel_rfl | decide +kernel) (.inl ⟨by rfl, .inl fun d => ⟨run_eq_of ?runt26, ?evt26⟩⟩) ?restt26
        case runt26 =>
          intro K hK
          go_simp
          exact hK
        case evt26 =>
          intro e he
          simp [go_sem] at he
        walk_nrm
        co_applyP anyO_take (i := 27) rfl (by first | kernel_rfl | decide +kernel) (by first | kernel_rfl | decide +kernel) (by first | kernel_rfl | decide +kernel) (.inl ⟨by rfl, .inl fun d => ⟨run_eq_of ?runt27, ?evt27⟩⟩) ?restt27
        case runt27 =>
          intro K hK
          go_simp
          exact hK
        case evt27 =>
          intro e he
          simp [go_sem, q3] at he
        walk_nrm
        co_applyP anyO_take (i := 28) rfl (by first | kernel_rfl | decide +kernel) (by first | kernel_rfl | decide +kernel) (by first | kernel_rfl | decide +kernel) (.inl ⟨by rfl, .inl fun d => ⟨run_eq_of ?runt28, ?evt28⟩⟩) ?restt28
        case runt28 =>
          intro K hK
          go_simp
          exact hK
        case evt28 =>
          intro e he
          simp [go_sem] at he
        walk_nrm
        co_applyP anyO_take (i := 29) rfl (by first | kernel_rfl | decide +kernel) (by first | kernel_rfl | decide +kernel) (by first | kernel_rfl | decide +kernel) (.inl ⟨by rfl, .inl fun d => ⟨run_eq_of ?runt29, ?evt29⟩⟩) ?restt29
        case runt29 =>
          intro K hK
          have f0 : (w7.at d).cell? ⟨g2, i * 2, none⟩ = some (.int .i64 (A : Int)) := hgk2
          go_simp
          exact hK
        case evt29 =>
          intro e he
          have f0 : (w7.at d).cell? ⟨g2, i * 2, none⟩ = some (.int .i64 (A : Int)) := hgk2
          simp [go_sem, f0] at he
          subst he
          exact evO_cell hgb2 hgo2
        walk_nrm
        co_applyP anyO_take (i := 30) rfl (by first | kernel_rfl | decide +kernel) (by first | kernel_rfl | decide +kernel) (by first | kernel_rfl | decide +kernel) (.inl ⟨by rfl, .inl fun d => ⟨run_eq_of ?runt30, ?evt30⟩⟩) ?restt30
        case runt30 =>
          intro K hK
          go_simp
          exact hK
        case evt30 =>
          intro e he
          simp [go_sem] at he
        walk_nrm
        co_applyP anyO_take (i := 31) rfl (by first | kernel_rfl | decide +kernel) (by first | kernel_rfl | decide +kernel) (by first | kernel_rfl | decide +kernel) (.inl ⟨by rfl, .inl fun d => ⟨run_eq_of ?runt31, ?evt31⟩⟩) ?restt31
        case runt31 =>
          intro K hK
          go_simp
          exact hK
        case evt31 =>
          intro e he
          simp [go_sem] at he
        walk_nrm
        co_applyP anyO_take (i := 32) rfl (by first | kernel_rfl | decide +kernel) (by first | kernel_rfl | decide +kernel) (by first | kernel_rfl | decide +kernel) (.inl ⟨by rfl, .inl fun d => ⟨run_eq_of ?runt32, ?evt32⟩⟩) ?restt32
        case runt32 =>
          intro K hK
          go_simp
          exact hK
        case evt32 =>
          intro e he
          simp [go_sem] at he
        walk_nrm
        co_applyP anyO_take (i := 33) rfl (by first | kernel_rfl | decide +kernel) (by first | kernel_rfl | decide +kernel) (by first | kernel_rfl | decide +kernel) (.inl ⟨by rfl, .inl fun d => ⟨run_eq_of ?runt33, ?evt33⟩⟩) ?restt33
        case runt33 =>
          intro K hK
          go_simp
          exact hK
        case evt33 =>
          intro e he
          simp [go_sem] at he
        walk_nrm
        co_applyP anyO_take (i := 34) rfl (by first | kernel_rfl | decide +kernel) (by first | kernel_rfl | decide +kernel) (by first | kernel_rfl | decide +kernel) (.inl ⟨by rfl, .inl fun d => ⟨run_eq_of ?runt34, ?evt34⟩⟩) ?restt34
        case runt34 =>
          intro K hK
          go_simp
          exact hK
        case evt34 =>
          intro e he
          simp [go_sem] at he
        walk_nrm
        co_applyP anyO_take (i := 35) rfl (by first | kernel_rfl | decide +kernel) (by first | kernel_rfl | decide +kernel) (by first | kernel_rfl | decide +kernel) (.inl ⟨by rfl, .inl fun d => ⟨run_eq_of ?runt35, ?evt35⟩⟩) ?restt35
        case runt35 =>
          intro K hK
          go_simp
          exact hK
        case evt35 =>
          intro e he
          simp [go_sem, q3] at he
        walk_nrm
        co_applyP anyO_take (i := 36) rfl (by first | kernel_rfl | decide +kernel) (by first | kernel_rfl | decide +kernel) (by first | kernel_rfl | decide +kernel) (.inl ⟨by rfl, .inl fun d => ⟨run_eq_of ?runt36, ?evt36⟩⟩) ?restt36
        case runt36 =>
          intro K hK
          go_simp
          exact hK
        case evt36 =>
          intro e he
          simp [go_sem] at he
        walk_nrm
        co_applyP anyO_take (i := 37) rfl (by first | kernel_rfl | decide +kernel) (by first | kernel_rfl | decide +kernel) (by first | kernel_rfl | decide +kernel) (.inl ⟨by rfl, .inl fun d => ⟨run_eq_of ?runt37, ?evt37⟩⟩) ?restt37
        case runt37 =>
          intro K hK
          have f0 : (w7.at d).cell? ⟨g2, i * 2 + 1, none⟩ = some (.slice va2 bs.length vc2) := hgv2
          go_simp
          exact hK
        case evt37 =>
          intro e he
          have f0 : (w7.at d).cell? ⟨g2, i * 2 + 1, none⟩ = some (.slice va2 bs.length vc2) := hgv2
          simp [go_sem, f0] at he
          subst he
          exact evO_cell hgb2 hgo2
        walk_nrm
        co_applyP anyO_take (i := 38) rfl (by first | kernel_rfl | decide +kernel) (by first | kernel_rfl | decide +kernel) (by first | kernel_rfl | decide +kernel) (.inl ⟨by rfl, .inl fun d => ⟨run_eq_of ?runt38, ?evt38⟩⟩) ?restt38
        case runt38 =>
          intro K hK
          go_simp
          exact hK
        case evt38 =>
          intro e he
          simp [go_sem] at he
        walk_nrm
        co_applyP anyO_take (i := 39) rfl (by first | kernel_rfl | decide +kernel) (by first | kernel_rfl | decide +kernel) (by first | kernel_rfl | decide +kernel) (.inl ⟨by rfl, .inl fun d => ⟨run_eq_of ?runt39, ?evt39⟩⟩) ?restt39
        case runt39 =>
          intro K hK
          go_simp
          exact hK
        case evt39 =>
          intro e he
          simp [go_sem] at he
        walk_nrm
        co_applyP anyO_take (i := 40) rfl (by first | kernel_rfl | decide +kernel) (by first | kernel_rfl | decide +kernel) (by first | kernel_rfl | decide +kernel) (.inl ⟨by rfl, .inl fun d => ⟨run_eq_of ?runt40, ?evt40⟩⟩) ?restt40
        case runt40 =>
          intro K hK
          go_simp
          exact hK
        case evt40 =>
          intro e he
          simp [go_sem, q2] at he
        walk_nrm
        co_applyP anyO_take (i := 41) rfl (by first | kernel_rfl | decide +kernel) (by first | kernel_rfl | decide +kernel) (by first | kernel_rfl | decide +kernel) (.inl ⟨by rfl, .inl fun d => ⟨run_eq_of ?runt41, ?evt41⟩⟩) ?restt41
        case runt41 =>
          intro K hK
          have f0 : (w7.at d).cell? ⟨b, off + i, none⟩ = some (.slice ra bs.length rc) := hc
          go_simp
          exact hK
        case evt41 =>
          intro e he
          have f0 : (w7.at d).cell? ⟨b, off + i, none⟩ = some (.slice ra bs.length rc) := hc
          simp [go_sem, f0] at he
          subst he
          exact evO_cell hb ho
        walk_nrm
        refine anyO_take (i := 42) rfl (by first | kernel_rfl | decide +kernel) (by first | kernel_rfl | decide +kernel) (by first | kernel_rfl | decide +kernel) (yv_call (by rfl) rfl Try.func15 nm_same rfl (by simp only [List.map_toArray, List.map_cons, List.map_nil]; rfl) (same_yes hgr2 hr1)) ?_
        walk_nrm
        co_applyP anyO_take (i := 43) rfl (by first | kernel_rfl | decide +kernel) (by first | kernel_rfl | decide +kernel) (by first | kernel_rfl | decide +kernel) (.inl ⟨by rfl, .inl fun d => ⟨run_eq_of ?runt43, ?evt43⟩⟩) ?restt43
        case runt43 =>
          intro K hK
          go_simp
          exact hK
        case evt43 =>
          intro e he
          simp [go_sem] at he
        walk_nrm
        co_applyP anyO_take (i := 44) rfl (by first | kernel_rfl | decide +kernel) (by first | kernel_rfl | decide +kernel) (by first | kernel_rfl | decide +kernel) (.inl ⟨by rfl, .inl fun d => ⟨run_eq_of ?runt44, ?evt44⟩⟩) ?restt44
        case runt44 =>
          intro K hK
          go_simp
          exact hK
        case evt44 =>
          intro e he
          simp [go_sem] at he
        walk_nrm
        co_applyP anyO_take (i := 45) rfl (by first | kernel_rfl | decide +kernel) (by first | kernel_rfl | decide +kernel) (by first | kernel_rfl | decide +kernel) (.inl ⟨by rfl, .inl fun d => ⟨run_eq_of ?runt45, ?evt45⟩⟩) ?restt45
        case runt45 =>
          intro K hK
          go_simp
          exact hK
        case evt45 =>
          intro e he
          simp [go_sem] at he
        walk_nrm
        co_applyP anyO_take (i := 46) rfl (by first | kernel_rfl | decide +kernel) (by first | kernel_rfl | decide +kernel) (by first | kernel_rfl | decide +kernel) (.inl ⟨by rfl, .inl fun d => ⟨run_eq_of ?runt46, ?evt46⟩⟩) ?restt46
        case runt46 =>
          intro K hK
          go_simp
          exact hK
        case evt46 =>
          intro e he
          simp [go_sem] at he
        walk_nrm
        refine anyO_done (by first | kernel_rfl | decide +kernel) ?_ _
        refine Ok.step rfl (fun _ h₁ => ?_)
        obtain ⟨d, rfl⟩ := h₁
        rw [stepG_region_end]
        simp only [goes_go]
        refine ⟨ok_none _, Ok.at ?_⟩
        clear d
        refine Ok.step rfl (fun _ h₁ => ?_)
        obtain ⟨d, rfl⟩ := h₁
        rw [stepG_cond (t := false) rfl]
        simp only [goes_go, if_true, if_false, Bool.false_eq_true, ↓reduceIte]
        refine ⟨ok_none _, Ok.at ?_⟩
        clear d
        refine Ok.step rfl (fun _ h₁ => ?_)
        obtain ⟨d, rfl⟩ := h₁
        rw [stepG_skip]
        simp only [goes_go]
        refine ⟨ok_none _, Ok.at ?_⟩
        clear d
        refine Ok.step rfl (fun _ h₁ => ?_)
        obtain ⟨d, rfl⟩ := h₁
        rw [stepG_inBlock]
        simp only [goes_go]
        refine ⟨ok_none _, Ok.at ?_⟩
        clear d
        refine Ok.step rfl (fun _ h₁ => ?_)
        obtain ⟨d, rfl⟩ := h₁
        rw [stepG_region]
        simp only [goes_go, List.size_toArray, List.length_cons, List.length_nil, Nat.reduceAdd, Nat.zero_add, List.range, List.range.loop]
        refine ⟨ok_none _, Ok.at ?_⟩
        clear d
        refine Ok.step rfl (fun _ h₁ => ?_)
        obtain ⟨d, rfl⟩ := h₁
        refine goes_oper_k rfl rfl (by decide) (fun K hK => ?_)
        go_simp
        refine hK _ _ ⟨⟨Nat.le_refl _, fun e he => ?_⟩, Ok.at ?_⟩
        · have hm := mem_listed he
          simp [go_sem] at hm
        clear hK K d
        refine Ok.step rfl (fun _ h₁ => ?_)
        obtain ⟨d, rfl⟩ := h₁
        refine goes_oper_k rfl rfl (by decide) (fun K hK => ?_)
        have f0 := q5
        go_simp
        refine hK _ _ ⟨⟨Nat.le_refl _, fun e he => ?_⟩, Ok.at ?_⟩
        · have hm := mem_listed he
          simp [go_sem, f0] at hm
        clear hK K f0 d
        refine Ok.step rfl (fun _ h₁ => ?_)
        obtain ⟨d, rfl⟩ := h₁
        refine goes_oper_k rfl rfl (by decide) (fun K hK => ?_)
        go_simp
        refine hK _ _ ⟨⟨Nat.le_refl _, fun e he => ?_⟩, Ok.at ?_⟩
        · have hm := mem_listed he
          simp [go_sem] at hm
        clear hK K d
        refine Ok.step rfl (fun _ h₁ => ?_)
        obtain ⟨d, rfl⟩ := h₁
        rw [stepG_region_end]
        simp only [goes_go]
        refine ⟨ok_none _, Ok.at ?_⟩
        clear d
        exact hN _ _ ⟨i + 1, _, _, _, _, _, _, _, _, _, _, _, _, _, _, _, _, _, _, _, _, _, _, _, _, _, _, _, _, _, _, _, _, _, _, _, _, _, _, _, _, _, _, _, _, _, _, _, _, _, _, _, _, _, _, _, _, _, _, _, _, _, _, _, _, _, _, _, _, _, _, _, _, _, _, _, _, _, _, _, _, _, _, _, _, _, _, _, _, _, _, _, _, _, _, _, _, _, _, _, _, by omega, rfl, rfl⟩ (by simp [MuS]; omega)
theorem pumprow_run {a : Option Addr} {n c : Nat} {x1 x2 x3 : Int} {M : List (List Int)} (hR : R2 NoB W (.slice a n c) M) (hx1 : -9223372036854775808 ≤ x1 ∧ x1 ≤ 9223372036854775807) (hx2 : -9223372036854775808 ≤ x2 ∧ x2 ≤ 9223372036854775807) (hx3 : -9223372036854775808 ≤ x3 ∧ x3 ≤ 9223372036854775807) :
    ∃ M last o w' t', runNT Try.prog (M + 1) (solo (G (Frame.enter Try.prog 6 #[.slice a n c, .int .i64 x1, .int .i64 x2, .int .i64 x3] .normal) []) W) #[] = (.ended o w', t') ∧ runN Try.prog M (solo (G (Frame.enter Try.prog 6 #[.slice a n c, .int .i64 x1, .int .i64 x2, .int .i64 x3] .normal) []) W) = .next last ∧ step Try.prog last = .ended o w' ∧ Conc.Good Try.prog (Told W) last o w' t' := by
  refine run_of_ok (m := 1) (by decide) Try.func6 (rfl : Try.f6.body = some bodyPR) ?_
  simp only [Try.ntmps6, List.size_toArray, List.length_cons, List.length_nil, Nat.reduceAdd, Nat.reduceSub, Array.replicate_succ, Array.replicate_zero, List.push_toArray, List.append_toArray, List.nil_append, List.cons_append]
  exact pumprow_ok hR hx1 hx2 hx3
end Go.Proofs.Ytiobhgemjbjipaa
