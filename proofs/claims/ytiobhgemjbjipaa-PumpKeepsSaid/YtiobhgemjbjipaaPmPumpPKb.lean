/- The law PumpKeeps: what is told is written into. Conditions stand as premises. -/
import Derived.Test.YtiobhgemjbjipaaPmPumpPKa
import Derived.Test.YtiobhgemjbjipaaPmPumpWr
set_option linter.unusedSimpArgs false
set_option linter.unusedVariables false
namespace Go.Proofs.Ytiobhgemjbjipaa
open Go.Conc Go.RowKit Go.Conc.Lib
set_option maxRecDepth 100000 in
set_option maxHeartbeats 8000000 in
theorem pk_byte {Post : Value → World → Prop} {m : Nat} {k : List Item} {cs : List Frame} {u1 u2 u5 u6 u7 u11 u12 u13 u14 u15 u16 u17 u18 u19 u20 u21 u22 u23 u24 u25 u26 u27 u28 u29 u30 u31 u32 u33 u34 u35 u36 u37 u38 u39 u40 u41 u42 u43 u44 u45 u46 u47 u48 u49 u50 u51 u52 u53 u54 u55 u56 u57 u58 u59 u60 u61 u62 u63 u64 u65 u66 u67 u68 u69 u70 u71 u72 u73 u74 u75 u76 u77 u78 u79 u80 u81 u82 u83 u84 u85 u86 u87 u88 u89 u90 u91 u92 u93 u94 u95 u96 u97 : Value} {Old3 : Nat → Prop} {w3 wg : World} {base0 g c vc gc vgc i : Nat} {a va vga : Option Addr} {cur : Array Value} {gl1 : List (Nat × List Int)} {bs : List Int} {L : List (List (List Int))} (hm : m < 900000) (q1 : (0 : Int) ≤ (i : Int) ∧ (i : Int) < (gl1.length : Int)) (hbl : bs.length ≤ 20) (hwr : WrF base0 w3 wg) (hgh : w3.heap[g]? = some (Obj.cells cur 33 (0, 0))) (hgo : ¬ Old3 g) (hgv : w3.cell? ⟨g, i * 2 + 1, none⟩ = some (.slice vga bs.length vgc))
    (hgb : 0 < bs.length → ∃ vb vo vs, vga = some ⟨vb, vo, none⟩ ∧ base0 ≤ vb ∧ ¬ Old3 vb ∧ w3.heap[vb]? = some (Obj.cells vs 5 (0, 0)) ∧ ∀ q, q < bs.length → ∃ y, w3.cell? ⟨vb, vo + q, none⟩ = some (.int .u8 y) ∧ 0 ≤ y ∧ y ≤ 255)
    (hK : ∀ (wb : World)  (v1 v2 v5 v6 v7 v10 v11 v12 v13 v14 v15 v16 v17 v18 v19 v20 v21 v22 v23 v24 v25 v26 v27 v28 v29 v30 v31 v32 v33 v34 v35 v36 v37 v38 v39 v40 v41 v42 v43 v44 v45 v46 v47 v48 v49 v50 v51 v52 v53 v54 v55 v56 v57 v58 v59 v60 v61 v62 v63 v64 v65 v66 v67 v68 v69 v70 v71 v72 v73 v74 v75 v76 v77 v78 v79 v80 v81 v82 v83 v84 v85 v86 v87 v88 v89 v90 v91 v92 v93 v94 v95 v96 v97 : Value), WrF base0 w3 wb → Ok Try.prog Post Old3 m (G ((base 4).at ⟨#[.slice a L.length c, v1, v2, .bool true, .slice va L.length vc, v5, v6, v7, .slice (some ⟨g, 0, none⟩) gl1.length gc, .int .i64 (i : Int), v10, v11, v12, v13, v14, v15, v16, v17, v18, v19, v20, v21, v22, v23, v24, v25, v26, v27, v28, v29, v30, v31, v32, v33, v34, v35, v36, v37, v38, v39, v40, v41, v42, v43, v44, v45, v46, v47, v48, v49, v50, v51, v52, v53, v54, v55, v56, v57, v58, v59, v60, v61, v62, v63, v64, v65, v66, v67, v68, v69, v70, v71, v72, v73, v74, v75, v76, v77, v78, v79, v80, v81, v82, v83, v84, v85, v86, v87, v88, v89, v90, v91, v92, v93, v94, v95, v96, v97], []⟩ k) cs) wb) :
    Ok Try.prog Post Old3 m (G ((base 4).at ⟨#[.slice a L.length c, u1, u2, .bool true, .slice va L.length vc, u5, u6, u7, .slice (some ⟨g, 0, none⟩) gl1.length gc, .int .i64 (i : Int), .int .i64 0, u11, u12, u13, u14, u15, u16, u17, u18, u19, u20, u21, u22, u23, u24, u25, u26, u27, u28, u29, u30, u31, u32, u33, u34, u35, u36, u37, u38, u39, u40, u41, u42, u43, u44, u45, u46, u47, u48, u49, u50, u51, u52, u53, u54, u55, u56, u57, u58, u59, u60, u61, u62, u63, u64, u65, u66, u67, u68, u69, u70, u71, u72, u73, u74, u75, u76, u77, u78, u79, u80, u81, u82, u83, u84, u85, u86, u87, u88, u89, u90, u91, u92, u93, u94, u95, u96, u97], []⟩ (.code (pkS2 (pkBl (pkS1 (pkS2 (pkLp (pkBl (pkS2 (pkS1 (pkS2 (pkS2 (pkS2 (pkS2 (pkS2 (pkS2 (pkS2 bodyPK))))))))))))))) :: k)) cs) wg := by
  simp only [bodyPK, Try.f4, Option.getD_some, pkS1, pkS2, pkBl, pkLp, pkCt, pkCf]
  refine Ok.step rfl (fun _ h₁ => ?_)
  obtain ⟨d, rfl⟩ := h₁
  rw [stepG_block]
  simp only [goes_go]
  refine ⟨ok_none _, Ok.at ?_⟩
  clear d
  refine Ok.loop (InvB base0 w3 a c L va vc (some ⟨g, 0, none⟩) gl1.length gc i bs.length) (MuS bs.length 10) ⟨0, _, _, _, _, _, _, _, _, _, _, _, _, _, _, _, _, _, _, _, _, _, _, _, _, _, _, _, _, _, _, _, _, _, _, _, _, _, _, _, _, _, _, _, _, _, _, _, _, _, _, _, _, _, _, _, _, _, _, _, _, _, _, _, _, _, _, _, _, _, _, _, _, _, _, _, _, _, _, _, _, _, _, _, _, _, _, _, _, _, _, _, _, Nat.zero_le _, hwr, rfl⟩ ?_
  clear hwr
  rintro _ wb ⟨q, y1, y2, y5, y6, y7, y11, y12, y13, y14, y15, y16, y17, y18, y19, y20, y21, y22, y23, y24, y25, y26, y27, y28, y29, y30, y31, y32, y33, y34, y35, y36, y37, y38, y39, y40, y41, y42, y43, y44, y45, y46, y47, y48, y49, y50, y51, y52, y53, y54, y55, y56, y57, y58, y59, y60, y61, y62, y63, y64, y65, y66, y67, y68, y69, y70, y71, y72, y73, y74, y75, y76, y77, y78, y79, y80, y81, y82, y83, y84, y85, y86, y87, y88, y89, y90, y91, y92, y93, y94, y95, y96, y97, hq, hwr, rfl⟩ hN4
  have hgv2 : wb.cell? ⟨g, i * 2 + 1, none⟩ = some (.slice vga bs.length vgc) := (cell_same (a := ⟨g, i * 2 + 1, none⟩) (hwr.other g cur _ (by decide) hgh)).trans hgv
  have hgb2 : g < wb.heap.size := by rw [hwr.size]; exact lt_of_heap hgh
  refine Ok.step rfl (fun _ h₁ => ?_)
  obtain ⟨d, rfl⟩ := h₁
  rw [stepG_seq]
  simp only [goes_go]
  refine ⟨ok_none _, Ok.at ?_⟩
  clear d
  refine Ok.step rfl (fun _ h₁ => ?_)
  obtain ⟨d, rfl⟩ := h₁
  rw [stepG_seq]
  simp only [goes_go]
  refine ⟨ok_none _, Ok.at ?_⟩
  clear d
  refine Ok.step rfl (fun _ h₁ => ?_)
  obtain ⟨d, rfl⟩ := h₁
  rw [stepG_region]
  simp only [goes_go, List.size_toArray, List.length_cons, List.length_nil, Nat.reduceAdd, Nat.zero_add, List.range, List.range.loop]
  refine ⟨ok_none _, Ok.at ?_⟩
  clear d
  refine Ok.step rfl (fun _ h₁ => ?_)
  obtain ⟨d, rfl⟩ := h₁
  refine goes_oper_k rfl rfl (by decide) (fun K hK => ?_)
  go_simp
  refine hK _ _ ⟨⟨Nat.le_refl _, fun e he => ?_⟩, Ok.at ?_⟩
  · have hm := mem_listed he
    simp [go_sem] at hm
  clear hK K d
  refine Ok.step rfl (fun _ h₁ => ?_)
  obtain ⟨d, rfl⟩ := h₁
  refine goes_oper_k rfl rfl (by decide) (fun K hK => ?_)
  go_simp
  refine hK _ _ ⟨⟨Nat.le_refl _, fun e he => ?_⟩, Ok.at ?_⟩
  · have hm := mem_listed he
    simp [go_sem] at hm
  clear hK K d
  refine Ok.step rfl (fun _ h₁ => ?_)
  obtain ⟨d, rfl⟩ := h₁
  refine goes_oper_k rfl rfl (by decide) (fun K hK => ?_)
  go_simp
  refine hK _ _ ⟨⟨Nat.le_refl _, fun e he => ?_⟩, Ok.at ?_⟩
  · have hm := mem_listed he
    simp [go_sem] at hm
  clear hK K d
  refine Ok.step rfl (fun _ h₁ => ?_)
  obtain ⟨d, rfl⟩ := h₁
  refine goes_oper_k rfl rfl (by decide) (fun K hK => ?_)
  have f0 := q1
  go_simp
  refine hK _ _ ⟨⟨Nat.le_refl _, fun e he => ?_⟩, Ok.at ?_⟩
  · have hm := mem_listed he
    simp [go_sem, f0] at hm
  clear hK K f0 d
  refine Ok.step rfl (fun _ h₁ => ?_)
  obtain ⟨d, rfl⟩ := h₁
  refine goes_oper_k rfl rfl (by decide) (fun K hK => ?_)
  go_simp
  refine hK _ _ ⟨⟨Nat.le_refl _, fun e he => ?_⟩, Ok.at ?_⟩
  · have hm := mem_listed he
    simp [go_sem] at hm
  clear hK K d
  refine Ok.step rfl (fun _ h₁ => ?_)
  obtain ⟨d, rfl⟩ := h₁
  refine goes_oper_k rfl rfl (by decide) (fun K hK => ?_)
  have f0 : (wb.at d).cell? ⟨g, i * 2 + 1, none⟩ = some (.slice vga bs.length vgc) := hgv2
  go_simp
  refine hK _ _ ⟨⟨Nat.le_refl _, fun e he => ?_⟩, Ok.at ?_⟩
  · have hm := mem_listed he
    simp [go_sem, f0] at hm
    subst hm
    exact evO_cell hgb2 hgo
  clear hK K f0 d
  refine Ok.step rfl (fun _ h₁ => ?_)
  obtain ⟨d, rfl⟩ := h₁
  refine goes_oper_k rfl rfl (by decide) (fun K hK => ?_)
  go_simp
  refine hK _ _ ⟨⟨Nat.le_refl _, fun e he => ?_⟩, Ok.at ?_⟩
  · have hm := mem_listed he
    simp [go_sem] at hm
  clear hK K d
  cases hqt : decide (q < bs.length)
  ·
    have hge : bs.length ≤ q := Nat.le_of_not_lt (of_decide_eq_false hqt)
    refine Ok.step rfl (fun _ h₁ => ?_)
    obtain ⟨d, rfl⟩ := h₁
    refine goes_oper_k rfl rfl (by decide) (fun K hK => ?_)
    have f0 := hqt
    go_simp
    refine hK _ _ ⟨⟨Nat.le_refl _, fun e he => ?_⟩, Ok.at ?_⟩
    · have hm := mem_listed he
      simp [go_sem, f0] at hm
    clear hK K f0 d
    refine Ok.step rfl (fun _ h₁ => ?_)
    obtain ⟨d, rfl⟩ := h₁
    rw [stepG_region_end]
    simp only [goes_go]
    refine ⟨ok_none _, Ok.at ?_⟩
    clear d
    refine Ok.step rfl (fun _ h₁ => ?_)
    obtain ⟨d, rfl⟩ := h₁
    rw [stepG_cond (t := false) rfl]
    simp only [goes_go, if_true, if_false, Bool.false_eq_true, ↓reduceIte]
    refine ⟨ok_none _, Ok.at ?_⟩
    clear d
    refine Ok.step rfl (fun _ h₁ => ?_)
    obtain ⟨d, rfl⟩ := h₁
    refine goes_exit rfl ?_
    refine ⟨ok_none _, Ok.at ?_⟩
    clear d
    exact hK _ _ _ _ _ _ _ _ _ _ _ _ _ _ _ _ _ _ _ _ _ _ _ _ _ _ _ _ _ _ _ _ _ _ _ _ _ _ _ _ _ _ _ _ _ _ _ _ _ _ _ _ _ _ _ _ _ _ _ _ _ _ _ _ _ _ _ _ _ _ _ _ _ _ _ _ _ _ _ _ _ _ _ _ _ _ _ _ _ _ _ _ _ _ hwr
  ·
    have hqt' : q < bs.length := of_decide_eq_true hqt
    obtain ⟨vb, vo, vs, hva, hvb, hvo, hvh, hvc⟩ := hgb (by omega)
    subst hva
    obtain ⟨y0, hy0, hy0b⟩ := hvc q hqt'
    obtain ⟨y, hy, hyb⟩ := hwr.byt vb (vo + q) y0 hy0 hy0b
    have hvb2 : vb < wb.heap.size := by rw [hwr.size]; exact lt_of_heap hvh
    have hfr : wb.frozen? ⟨vb, vo + q, none⟩ = false := by
      obtain ⟨cur', hcur'⟩ := hwr.obj vb vs _ hvh
      simp [World.frozen?, hcur']
    have q2 : (0 : Int) ≤ (q : Int) ∧ (q : Int) < (bs.length : Int) := ⟨by omega, by omega⟩
    have q6 := wrap_succ (i := q) (by omega)
    refine Ok.step rfl (fun _ h₁ => ?_)
    obtain ⟨d, rfl⟩ := h₁
    refine goes_oper_k rfl rfl (by decide) (fun K hK => ?_)
    have f0 := hqt
    go_simp
    refine hK _ _ ⟨⟨Nat.le_refl _, fun e he => ?_⟩, Ok.at ?_⟩
    · have hm := mem_listed he
      simp [go_sem, f0] at hm
    clear hK K f0 d
    refine Ok.step rfl (fun _ h₁ => ?_)
    obtain ⟨d, rfl⟩ := h₁
    rw [stepG_region_end]
    simp only [goes_go]
    refine ⟨ok_none _, Ok.at ?_⟩
    clear d
    refine Ok.step rfl (fun _ h₁ => ?_)
    obtain ⟨d, rfl⟩ := h₁
    rw [stepG_cond (t := true) rfl]
    simp only [goes_go, if_true, if_false, Bool.false_eq_true, ↓reduceIte]
    refine ⟨ok_none _, Ok.at ?_⟩
    clear d
    refine Ok.step rfl (fun _ h₁ => ?_)
    obtain ⟨d, rfl⟩ := h₁
    rw [stepG_skip]
    simp only [goes_go]
    refine ⟨ok_none _, Ok.at ?_⟩
    clear d
    refine Ok.step rfl (fun _ h₁ => ?_)
    obtain ⟨d, rfl⟩ := h₁
    rw [stepG_seq]
    simp only [goes_go]
    refine ⟨ok_none _, Ok.at ?_⟩
    clear d
    refine Ok.step rfl (fun _ h₁ => ?_)
    obtain ⟨d, rfl⟩ := h₁
    rw [stepG_block]
    simp only [goes_go]
    refine ⟨ok_none _, Ok.at ?_⟩
    clear d
    refine Ok.lasts 16 (by first | kernel_rfl | rfl) (by decide) ?_
    simp only [List.size_toArray, List.length_cons, List.length_nil, Nat.reduceAdd, Nat.zero_add]
    co_applyP anyJ_take (i := 0) rfl (by first | kernel_rfl | decide +kernel) (by first | kernel_rfl | decide +kernel) (by first | kernel_rfl | decide +kernel) (by first | kernel_rfl | decide +kernel) (.inl ⟨by rfl, .inl fun d => ⟨run_eq_of ?run0, ?ev0⟩⟩) ?rest0
    case run0 =>
      intro K hK
      go_simp
      exact hK
    case ev0 =>
      intro e he
      simp [go_sem] at he
    walk_nrm
    co_applyP anyJ_take (i := 1) rfl (by first | kernel_rfl | decide +kernel) (by first | kernel_rfl | decide +kernel) (by first | kernel_rfl | decide +kernel) (by first | kernel_rfl | decide +kernel) (.inl ⟨by rfl, .inl fun d => ⟨run_eq_of ?run1, ?ev1⟩⟩) ?rest1
    case run1 =>
      intro K hK
      go_simp
      exact hK
    case ev1 =>
      intro e he
      simp [go_sem] at he
    walk_nrm
    co_applyP anyJ_take (i := 2) rfl (by first | kernel_rfl | decide +kernel) (by first | kernel_rfl | decide +kernel) (by first | kernel_rfl | decide +kernel) (by first | kernel_rfl | decide +kernel) (.inl ⟨by rfl, .inl fun d => ⟨run_eq_of ?run2, ?ev2⟩⟩) ?rest2
    case run2 =>
      intro K hK
      go_simp
      exact hK
    case ev2 =>
      intro e he
      simp [go_sem, q1] at he
    walk_nrm
    co_applyP anyJ_take (i := 3) rfl (by first | kernel_rfl | decide +kernel) (by first | kernel_rfl | decide +kernel) (by first | kernel_rfl | decide +kernel) (by first | kernel_rfl | decide +kernel) (.inl ⟨by rfl, .inl fun d => ⟨run_eq_of ?run3, ?ev3⟩⟩) ?rest3
    case run3 =>
      intro K hK
      go_simp
      exact hK
    case ev3 =>
      intro e he
      simp [go_sem] at he
    walk_nrm
    co_applyP anyJ_take (i := 4) rfl (by first | kernel_rfl | decide +kernel) (by first | kernel_rfl | decide +kernel) (by first | kernel_rfl | decide +kernel) (by first | kernel_rfl | decide +kernel) (.inl ⟨by rfl, .inl fun d => ⟨run_eq_of ?run4, ?ev4⟩⟩) ?rest4
    case run4 =>
      intro K hK
      have f0 : (wb.at d).cell? ⟨g, i * 2 + 1, none⟩ = some (.slice (some ⟨vb, vo, none⟩) bs.length vgc) := hgv2
      go_simp
      exact hK
    case ev4 =>
      intro e he
      have f0 : (wb.at d).cell? ⟨g, i * 2 + 1, none⟩ = some (.slice (some ⟨vb, vo, none⟩) bs.length vgc) := hgv2
      simp [go_sem, f0] at he
      subst he
      exact evO_cell hgb2 hgo
    walk_nrm
    co_applyP anyJ_take (i := 5) rfl (by first | kernel_rfl | decide +kernel) (by first | kernel_rfl | decide +kernel) (by first | kernel_rfl | decide +kernel) (by first | kernel_rfl | decide +kernel) (.inl ⟨by rfl, .inl fun d => ⟨run_eq_of ?run5, ?ev5⟩⟩) ?rest5
    case run5 =>
      intro K hK
      go_simp
      exact hK
    case ev5 =>
      intro e he
      simp [go_sem] at he
    walk_nrm
    co_applyP anyJ_take (i := 6) rfl (by first | kernel_rfl | decide +kernel) (by first | kernel_rfl | decide +kernel) (by first | kernel_rfl | decide +kernel) (by first | kernel_rfl | decide +kernel) (.inl ⟨by rfl, .inl fun d => ⟨run_eq_of ?run6, ?ev6⟩⟩) ?rest6
    case run6 =>
      intro K hK
      go_simp
      exact hK
    case ev6 =>
      intro e he
      simp [go_sem] at he
    walk_nrm
    co_applyP anyJ_take (i := 7) rfl (by first | kernel_rfl | decide +kernel) (by first | kernel_rfl | decide +kernel) (by first | kernel_rfl | decide +kernel) (by first | kernel_rfl | decide +kernel) (.inl ⟨by rfl, .inl fun d => ⟨run_eq_of ?run7, ?ev7⟩⟩) ?rest7
    case run7 =>
      intro K hK
      go_simp
      exact hK
    case ev7 =>
      intro e he
      simp [go_sem] at he
    walk_nrm
    co_applyP anyJ_take (i := 8) rfl (by first | kernel_rfl | decide +kernel) (by first | kernel_rfl | decide +kernel) (by first | kernel_rfl | decide +kernel) (by first | kernel_rfl | decide +kernel) (.inl ⟨by rfl, .inl fun d => ⟨run_eq_of ?run8, ?ev8⟩⟩) ?rest8
    case run8 =>
      intro K hK
      go_simp
      exact hK
    case ev8 =>
      intro e he
      simp [go_sem, q1] at he
    walk_nrm
    co_applyP anyJ_take (i := 9) rfl (by first | kernel_rfl | decide +kernel) (by first | kernel_rfl | decide +kernel) (by first | kernel_rfl | decide +kernel) (by first | kernel_rfl | decide +kernel) (.inl ⟨by rfl, .inl fun d => ⟨run_eq_of ?run9, ?ev9⟩⟩) ?rest9
    case run9 =>
      intro K hK
      go_simp
      exact hK
    case ev9 =>
      intro e he
      simp [go_sem] at he
    walk_nrm
    co_applyP anyJ_take (i := 10) rfl (by first | kernel_rfl | decide +kernel) (by first | kernel_rfl | decide +kernel) (by first | kernel_rfl | decide +kernel) (by first | kernel_rfl | decide +kernel) (.inl ⟨by rfl, .inl fun d => ⟨run_eq_of ?run10, ?ev10⟩⟩) ?rest10
    case run10 =>
      intro K hK
      have f0 : (wb.at d).cell? ⟨g, i * 2 + 1, none⟩ = some (.slice (some ⟨vb, vo, none⟩) bs.length vgc) := hgv2
      go_simp
      exact hK
    case ev10 =>
      intro e he
      have f0 : (wb.at d).cell? ⟨g, i * 2 + 1, none⟩ = some (.slice (some ⟨vb, vo, none⟩) bs.length vgc) := hgv2
      simp [go_sem, f0] at he
      subst he
      exact evO_cell hgb2 hgo
    walk_nrm
    co_applyP anyJ_take (i := 11) rfl (by first | kernel_rfl | decide +kernel) (by first | kernel_rfl | decide +kernel) (by first | kernel_rfl | decide +kernel) (by first | kernel_rfl | decide +kernel) (.inl ⟨by rfl, .inl fun d => ⟨run_eq_of ?run11, ?ev11⟩⟩) ?rest11
    case run11 =>
      intro K hK
      go_simp
      exact hK
    case ev11 =>
      intro e he
      simp [go_sem] at he
    walk_nrm
    co_applyP anyJ_take (i := 12) rfl (by first | kernel_rfl | decide +kernel) (by first | kernel_rfl | decide +kernel) (by first | kernel_rfl | decide +kernel) (by first | kernel_rfl | decide +kernel) (.inl ⟨by rfl, .inl fun d => ⟨run_eq_of ?run12, ?ev12⟩⟩) ?rest12
    case run12 =>
      intro K hK
      go_simp
      exact hK
    case ev12 =>
      intro e he
      simp [go_sem, q2] at he
    walk_nrm
    co_applyP anyJ_take (i := 13) rfl (by first | kernel_rfl | decide +kernel) (by first | kernel_rfl | decide +kernel) (by first | kernel_rfl | decide +kernel) (by first | kernel_rfl | decide +kernel) (.inl ⟨by rfl, .inl fun d => ⟨run_eq_of ?run13, ?ev13⟩⟩) ?rest13
    case run13 =>
      intro K hK
      have f0 : (wb.at d).cell? ⟨vb, vo + q, none⟩ = some (.int .u8 y) := hy
      go_simp
      exact hK
    case ev13 =>
      intro e he
      have f0 : (wb.at d).cell? ⟨vb, vo + q, none⟩ = some (.int .u8 y) := hy
      simp [go_sem, f0] at he
      subst he
      exact evO_cell hvb2 hvo
    walk_nrm
    obtain ⟨z, hz, hzb⟩ : ∃ z, z = IntKind.u8.wrap ((BitVec.ofInt 8 255 ^^^ BitVec.ofInt 8 y).toNat : Int) ∧ 0 ≤ z ∧ z ≤ 255 := ⟨_, rfl, xor_u8 _ _⟩
    have HZ := Lib.hid hz
    clear hz
    co_applyP anyJ_take (i := 14) (v := .int .u8 z) rfl (by first | kernel_rfl | decide +kernel) (by first | kernel_rfl | decide +kernel) (by first | kernel_rfl | decide +kernel) (by first | kernel_rfl | decide +kernel) (.inl ⟨by rfl, .inl fun d => ⟨run_eq_of ?run14, ?ev14⟩⟩) ?rest14
    case run14 =>
      intro K hK
      obtain rfl := HZ.out
      go_simp
      exact hK
    case ev14 =>
      intro e he
      simp [go_sem] at he
    clear HZ
    walk_nrm
    co_applyP anyJ_take (i := 15) rfl (by first | kernel_rfl | decide +kernel) (by first | kernel_rfl | decide +kernel) (by first | kernel_rfl | decide +kernel) (by first | kernel_rfl | decide +kernel) (.inl ⟨by rfl, .inl fun d => ⟨run_eq_of ?run15, ?ev15⟩⟩) ?rest15
    case run15 =>
      intro K hK
      go_simp
      exact hK
    case ev15 =>
      intro e he
      simp [go_sem, q2] at he
    walk_nrm
    refine anyJ_last (by first | kernel_rfl | decide +kernel) (by first | kernel_rfl | decide +kernel) ?_
    refine Ok.opn rfl rfl (by decide) (fun _ h₁ => ?_)
    obtain ⟨d, rfl⟩ := h₁
    have f0 : (wb.at d).cell? ⟨vb, vo + q, none⟩ = some (.int .u8 y) := hy
    have f1 : (wb.at d).frozen? ⟨vb, vo + q, none⟩ = false := hfr
    refine ⟨(wb.at d).setCell ⟨vb, vo + q, none⟩ (.int .u8 z), by simp [go_sem, execOp, f0, f1], Nat.le_of_eq (aside_setCell (wb.at d) ⟨vb, vo + q, none⟩ (.int .u8 z)).size.symm, fun e he => ?_, ?_⟩
    · simp [go_sem, execOp, f0, f1] at he
      subst he
      exact evO_cell (by rw [(aside_setCell (wb.at d) ⟨vb, vo + q, none⟩ (.int .u8 z)).size]; exact hvb2) hvo
    rw [show (wb.at d).setCell ⟨vb, vo + q, none⟩ (.int .u8 z) = (wb.setCell ⟨vb, vo + q, none⟩ (.int .u8 z)).at d from rfl]
    refine Ok.at ?_
    have hwr' := hwr.put hvb hvh (off := vo + q) hzb
    clear f0 f1 d
    walk_nrm
    refine Ok.step rfl (fun _ h₁ => ?_)
    obtain ⟨d, rfl⟩ := h₁
    rw [stepG_region_end]
    simp only [goes_go]
    refine ⟨ok_none _, Ok.at ?_⟩
    clear d
    refine Ok.step rfl (fun _ h₁ => ?_)
    obtain ⟨d, rfl⟩ := h₁
    rw [stepG_inBlock]
    simp only [goes_go]
    refine ⟨ok_none _, Ok.at ?_⟩
    clear d
    refine Ok.step rfl (fun _ h₁ => ?_)
    obtain ⟨d, rfl⟩ := h₁
    rw [stepG_region]
    simp only [goes_go, List.size_toArray, List.length_cons, List.length_nil, Nat.reduceAdd, Nat.zero_add, List.range, List.range.loop]
    refine ⟨ok_none _, Ok.at ?_⟩
    clear d
    refine Ok.step rfl (fun _ h₁ => ?_)
    obtain ⟨d, rfl⟩ := h₁
    refine goes_oper_k rfl rfl (by decide) (fun K hK => ?_)
    go_simp
    refine hK _ _ ⟨⟨Nat.le_refl _, fun e he => ?_⟩, Ok.at ?_⟩
    · have hm := mem_listed he
      simp [go_sem] at hm
    clear hK K d
    refine Ok.step rfl (fun _ h₁ => ?_)
    obtain ⟨d, rfl⟩ := h₁
    refine goes_oper_k rfl rfl (by decide) (fun K hK => ?_)
    have f0 := q6
    go_simp
    refine hK _ _ ⟨⟨Nat.le_refl _, fun e he => ?_⟩, Ok.at ?_⟩
    · have hm := mem_listed he
      simp [go_sem, f0] at hm
    clear hK K f0 d
    refine Ok.step rfl (fun _ h₁ => ?_)
    obtain ⟨d, rfl⟩ := h₁
    refine goes_oper_k rfl rfl (by decide) (fun K hK => ?_)
    go_simp
    refine hK _ _ ⟨⟨Nat.le_refl _, fun e he => ?_⟩, Ok.at ?_⟩
    · have hm := mem_listed he
      simp [go_sem] at hm
    clear hK K d
    refine Ok.step rfl (fun _ h₁ => ?_)
    obtain ⟨d, rfl⟩ := h₁
    rw [stepG_region_end]
    simp only [goes_go]
    refine ⟨ok_none _, Ok.at ?_⟩
    clear d
    exact hN4 _ _ ⟨q + 1, _, _, _, _, _, _, _, _, _, _, _, _, _, _, _, _, _, _, _, _, _, _, _, _, _, _, _, _, _, _, _, _, _, _, _, _, _, _, _, _, _, _, _, _, _, _, _, _, _, _, _, _, _, _, _, _, _, _, _, _, _, _, _, _, _, _, _, _, _, _, _, _, _, _, _, _, _, _, _, _, _, _, _, _, _, _, _, _, _, _, _, _, by omega, hwr', rfl⟩ (by simp [MuS]; omega)
set_option maxRecDepth 100000 in
set_option maxHeartbeats 8000000 in
theorem pk_write {Post : Value → World → Prop} {m : Nat} {k : List Item} {cs : List Frame} {u1 u2 u5 u6 u7 u10 u11 u12 u13 u14 u15 u16 u17 u18 u19 u20 u21 u22 u23 u24 u25 u26 u27 u28 u29 u30 u31 u32 u33 u34 u35 u36 u37 u38 u39 u40 u41 u42 u43 u44 u45 u46 u47 u48 u49 u50 u51 u52 u53 u54 u55 u56 u57 u58 u59 u60 u61 u62 u63 u64 u65 u66 u67 u68 u69 u70 u71 u72 u73 u74 u75 u76 u77 u78 u79 u80 u81 u82 u83 u84 u85 u86 u87 u88 u89 u90 u91 u92 u93 u94 u95 u96 u97 : Value} {Old3 : Nat → Prop} {w3 : World} {base0 c vc gc : Nat} {a va ga : Option Addr} {gl1 : List (Nat × List Int)} {L : List (List (List Int))} (hm : m < 900000) (hL : Light L) (hgl1 : gl1.length ≤ 48) (hg1 : GotL Old3 w3 base0 (.slice ga gl1.length gc) gl1) (hmg1 : Merge True gl1 L)
    (hK : ∀ (wg : World)  (v1 v2 v5 v6 v7 v9 v10 v11 v12 v13 v14 v15 v16 v17 v18 v19 v20 v21 v22 v23 v24 v25 v26 v27 v28 v29 v30 v31 v32 v33 v34 v35 v36 v37 v38 v39 v40 v41 v42 v43 v44 v45 v46 v47 v48 v49 v50 v51 v52 v53 v54 v55 v56 v57 v58 v59 v60 v61 v62 v63 v64 v65 v66 v67 v68 v69 v70 v71 v72 v73 v74 v75 v76 v77 v78 v79 v80 v81 v82 v83 v84 v85 v86 v87 v88 v89 v90 v91 v92 v93 v94 v95 v96 v97 : Value), WrF base0 w3 wg → Ok Try.prog Post Old3 m (G ((base 4).at ⟨#[.slice a L.length c, v1, v2, .bool true, .slice va L.length vc, v5, v6, v7, .slice ga gl1.length gc, v9, v10, v11, v12, v13, v14, v15, v16, v17, v18, v19, v20, v21, v22, v23, v24, v25, v26, v27, v28, v29, v30, v31, v32, v33, v34, v35, v36, v37, v38, v39, v40, v41, v42, v43, v44, v45, v46, v47, v48, v49, v50, v51, v52, v53, v54, v55, v56, v57, v58, v59, v60, v61, v62, v63, v64, v65, v66, v67, v68, v69, v70, v71, v72, v73, v74, v75, v76, v77, v78, v79, v80, v81, v82, v83, v84, v85, v86, v87, v88, v89, v90, v91, v92, v93, v94, v95, v96, v97], []⟩ k) cs) wg) :
    Ok Try.prog Post Old3 m (G ((base 4).at ⟨#[.slice a L.length c, u1, u2, .bool true, .slice va L.length vc, u5, u6, u7, .slice ga gl1.length gc, .int .i64 0, u10, u11, u12, u13, u14, u15, u16, u17, u18, u19, u20, u21, u22, u23, u24, u25, u26, u27, u28, u29, u30, u31, u32, u33, u34, u35, u36, u37, u38, u39, u40, u41, u42, u43, u44, u45, u46, u47, u48, u49, u50, u51, u52, u53, u54, u55, u56, u57, u58, u59, u60, u61, u62, u63, u64, u65, u66, u67, u68, u69, u70, u71, u72, u73, u74, u75, u76, u77, u78, u79, u80, u81, u82, u83, u84, u85, u86, u87, u88, u89, u90, u91, u92, u93, u94, u95, u96, u97], []⟩ (.code (pkS2 (pkS1 (pkS2 (pkS2 (pkS2 (pkS2 (pkS2 (pkS2 (pkS2 bodyPK))))))))) :: k)) cs) w3 := by
  simp only [bodyPK, Try.f4, Option.getD_some, pkS1, pkS2, pkBl, pkLp, pkCt, pkCf]
  refine Ok.step rfl (fun _ h₁ => ?_)
  obtain ⟨d, rfl⟩ := h₁
  rw [stepG_block]
  simp only [goes_go]
  refine ⟨ok_none _, Ok.at ?_⟩
  clear d
  refine Ok.loop (InvG base0 w3 a c L va vc ga gl1.length gc) (MuS gl1.length 9) ⟨0, _, _, _, _, _, _, _, _, _, _, _, _, _, _, _, _, _, _, _, _, _, _, _, _, _, _, _, _, _, _, _, _, _, _, _, _, _, _, _, _, _, _, _, _, _, _, _, _, _, _, _, _, _, _, _, _, _, _, _, _, _, _, _, _, _, _, _, _, _, _, _, _, _, _, _, _, _, _, _, _, _, _, _, _, _, _, _, _, _, _, _, _, _, Nat.zero_le _, WrF.refl _ _, rfl⟩ ?_
  rintro _ wg ⟨i, x1, x2, x5, x6, x7, x10, x11, x12, x13, x14, x15, x16, x17, x18, x19, x20, x21, x22, x23, x24, x25, x26, x27, x28, x29, x30, x31, x32, x33, x34, x35, x36, x37, x38, x39, x40, x41, x42, x43, x44, x45, x46, x47, x48, x49, x50, x51, x52, x53, x54, x55, x56, x57, x58, x59, x60, x61, x62, x63, x64, x65, x66, x67, x68, x69, x70, x71, x72, x73, x74, x75, x76, x77, x78, x79, x80, x81, x82, x83, x84, x85, x86, x87, x88, x89, x90, x91, x92, x93, x94, x95, x96, x97, hi, hwr, rfl⟩ hN3
  refine Ok.step rfl (fun _ h₁ => ?_)
  obtain ⟨d, rfl⟩ := h₁
  rw [stepG_seq]
  simp only [goes_go]
  refine ⟨ok_none _, Ok.at ?_⟩
  clear d
  refine Ok.step rfl (fun _ h₁ => ?_)
  obtain ⟨d, rfl⟩ := h₁
  rw [stepG_seq]
  simp only [goes_go]
  refine ⟨ok_none _, Ok.at ?_⟩
  clear d
  refine Ok.step rfl (fun _ h₁ => ?_)
  obtain ⟨d, rfl⟩ := h₁
  rw [stepG_region]
  simp only [goes_go, List.size_toArray, List.length_cons, List.length_nil, Nat.reduceAdd, Nat.zero_add, List.range, List.range.loop]
  refine ⟨ok_none _, Ok.at ?_⟩
  clear d
  refine Ok.step rfl (fun _ h₁ => ?_)
  obtain ⟨d, rfl⟩ := h₁
  refine goes_oper_k rfl rfl (by decide) (fun K hK => ?_)
  go_simp
  refine hK _ _ ⟨⟨Nat.le_refl _, fun e he => ?_⟩, Ok.at ?_⟩
  · have hm := mem_listed he
    simp [go_sem] at hm
  clear hK K d
  refine Ok.step rfl (fun _ h₁ => ?_)
  obtain ⟨d, rfl⟩ := h₁
  refine goes_oper_k rfl rfl (by decide) (fun K hK => ?_)
  go_simp
  refine hK _ _ ⟨⟨Nat.le_refl _, fun e he => ?_⟩, Ok.at ?_⟩
  · have hm := mem_listed he
    simp [go_sem] at hm
  clear hK K d
  refine Ok.step rfl (fun _ h₁ => ?_)
  obtain ⟨d, rfl⟩ := h₁
  refine goes_oper_k rfl rfl (by decide) (fun K hK => ?_)
  go_simp
  refine hK _ _ ⟨⟨Nat.le_refl _, fun e he => ?_⟩, Ok.at ?_⟩
  · have hm := mem_listed he
    simp [go_sem] at hm
  clear hK K d
  cases hgt : decide (i < gl1.length)
  ·
    have hge : gl1.length ≤ i := Nat.le_of_not_lt (of_decide_eq_false hgt)
    refine Ok.step rfl (fun _ h₁ => ?_)
    obtain ⟨d, rfl⟩ := h₁
    refine goes_oper_k rfl rfl (by decide) (fun K hK => ?_)
    have f0 := hgt
    go_simp
    refine hK _ _ ⟨⟨Nat.le_refl _, fun e he => ?_⟩, Ok.at ?_⟩
    · have hm := mem_listed he
      simp [go_sem, f0] at hm
    clear hK K f0 d
    refine Ok.step rfl (fun _ h₁ => ?_)
    obtain ⟨d, rfl⟩ := h₁
    rw [stepG_region_end]
    simp only [goes_go]
    refine ⟨ok_none _, Ok.at ?_⟩
    clear d
    refine Ok.step rfl (fun _ h₁ => ?_)
    obtain ⟨d, rfl⟩ := h₁
    rw [stepG_cond (t := false) rfl]
    simp only [goes_go, if_true, if_false, Bool.false_eq_true, ↓reduceIte]
    refine ⟨ok_none _, Ok.at ?_⟩
    clear d
    refine Ok.step rfl (fun _ h₁ => ?_)
    obtain ⟨d, rfl⟩ := h₁
    refine goes_exit rfl ?_
    refine ⟨ok_none _, Ok.at ?_⟩
    clear d
    exact hK _ _ _ _ _ _ _ _ _ _ _ _ _ _ _ _ _ _ _ _ _ _ _ _ _ _ _ _ _ _ _ _ _ _ _ _ _ _ _ _ _ _ _ _ _ _ _ _ _ _ _ _ _ _ _ _ _ _ _ _ _ _ _ _ _ _ _ _ _ _ _ _ _ _ _ _ _ _ _ _ _ _ _ _ _ _ _ _ _ _ _ _ _ _ _ hwr
  ·
    have hgt' : i < gl1.length := of_decide_eq_true hgt
    obtain ⟨⟨k0, bs⟩, hGi⟩ : ∃ y, gl1[i]? = some y := ⟨_, List.getElem?_eq_getElem hgt'⟩
    have hbl : bs.length ≤ 20 := by
      obtain ⟨row, hr1, hr2⟩ := hmg1.mem hGi
      exact (hL.2 row hr1).2 bs hr2
    obtain ⟨g, cur, vga, vgc, hga, hgh, hgo, hgv, _, hgb⟩ := hg1.cells rfl hGi
    subst hga
    have q1 : (0 : Int) ≤ (i : Int) ∧ (i : Int) < (gl1.length : Int) := ⟨by omega, by omega⟩
    have q5 := wrap_succ (i := i) (by omega)
    refine Ok.step rfl (fun _ h₁ => ?_)
    obtain ⟨d, rfl⟩ := h₁
    refine goes_oper_k rfl rfl (by decide) (fun K hK => ?_)
    have f0 := hgt
    go_simp
    refine hK _ _ ⟨⟨Nat.le_refl _, fun e he => ?_⟩, Ok.at ?_⟩
    · have hm := mem_listed he
      simp [go_sem, f0] at hm
    clear hK K f0 d
    refine Ok.step rfl (fun _ h₁ => ?_)
    obtain ⟨d, rfl⟩ := h₁
    rw [stepG_region_end]
    simp only [goes_go]
    refine ⟨ok_none _, Ok.at ?_⟩
    clear d
    refine Ok.step rfl (fun _ h₁ => ?_)
    obtain ⟨d, rfl⟩ := h₁
    rw [stepG_cond (t := true) rfl]
    simp only [goes_go, if_true, if_false, Bool.false_eq_true, ↓reduceIte]
    refine ⟨ok_none _, Ok.at ?_⟩
    clear d
    refine Ok.step rfl (fun _ h₁ => ?_)
    obtain ⟨d, rfl⟩ := h₁
    rw [stepG_skip]
    simp only [goes_go]
    refine ⟨ok_none _, Ok.at ?_⟩
    clear d
    refine Ok.step rfl (fun _ h₁ => ?_)
    obtain ⟨d, rfl⟩ := h₁
    rw [stepG_seq]
    simp only [goes_go]
    refine ⟨ok_none _, Ok.at ?_⟩
    clear d
    refine Ok.step rfl (fun _ h₁ => ?_)
    obtain ⟨d, rfl⟩ := h₁
    rw [stepG_block]
    simp only [goes_go]
    refine ⟨ok_none _, Ok.at ?_⟩
    clear d
    refine Ok.step rfl (fun _ h₁ => ?_)
    obtain ⟨d, rfl⟩ := h₁
    rw [stepG_seq]
    simp only [goes_go]
    refine ⟨ok_none _, Ok.at ?_⟩
    clear d
    refine Ok.step rfl (fun _ h₁ => ?_)
    obtain ⟨d, rfl⟩ := h₁
    rw [stepG_region]
    simp only [goes_go, List.size_toArray, List.length_cons, List.length_nil, Nat.reduceAdd, Nat.zero_add, List.range, List.range.loop]
    refine ⟨ok_none _, Ok.at ?_⟩
    clear d
    refine Ok.step rfl (fun _ h₁ => ?_)
    obtain ⟨d, rfl⟩ := h₁
    refine goes_oper_k rfl rfl (by decide) (fun K hK => ?_)
    go_simp
    refine hK _ _ ⟨⟨Nat.le_refl _, fun e he => ?_⟩, Ok.at ?_⟩
    · have hm := mem_listed he
      simp [go_sem] at hm
    clear hK K d
    refine Ok.step rfl (fun _ h₁ => ?_)
    obtain ⟨d, rfl⟩ := h₁
    rw [stepG_region_end]
    simp only [goes_go]
    refine ⟨ok_none _, Ok.at ?_⟩
    clear d
    refine pk_byte (by omega) q1 hbl hwr hgh hgo hgv hgb (fun wb _ _ _ _ _ _ _ _ _ _ _ _ _ _ _ _ _ _ _ _ _ _ _ _ _ _ _ _ _ _ _ _ _ _ _ _ _ _ _ _ _ _ _ _ _ _ _ _ _ _ _ _ _ _ _ _ _ _ _ _ _ _ _ _ _ _ _ _ _ _ _ _ _ _ _ _ _ _ _ _ _ _ _ _ _ _ _ _ _ _ _ _ _ hwr => ?_)
    refine Ok.step rfl (fun _ h₁ => ?_)
    obtain ⟨d, rfl⟩ := h₁
    rw [stepG_inBlock]
    simp only [goes_go]
    refine ⟨ok_none _, Ok.at ?_⟩
    clear d
    refine Ok.step rfl (fun _ h₁ => ?_)
    obtain ⟨d, rfl⟩ := h₁
    rw [stepG_region]
    simp only [goes_go, List.size_toArray, List.length_cons, List.length_nil, Nat.reduceAdd, Nat.zero_add, List.range, List.range.loop]
    refine ⟨ok_none _, Ok.at ?_⟩
    clear d
    refine Ok.step rfl (fun _ h₁ => ?_)
    obtain ⟨d, rfl⟩ := h₁
    refine goes_oper_k rfl rfl (by decide) (fun K hK => ?_)
    go_simp
    refine hK _ _ ⟨⟨Nat.le_refl _, fun e he => ?_⟩, Ok.at ?_⟩
    · have hm := mem_listed he
      simp [go_sem] at hm
    clear hK K d
    refine Ok.step rfl (fun _ h₁ => ?_)
    obtain ⟨d, rfl⟩ := h₁
    refine goes_oper_k rfl rfl (by decide) (fun K hK => ?_)
    have f0 := q5
    go_simp
    refine hK _ _ ⟨⟨Nat.le_refl _, fun e he => ?_⟩, Ok.at ?_⟩
    · have hm := mem_listed he
      simp [go_sem, f0] at hm
    clear hK K f0 d
    refine Ok.step rfl (fun _ h₁ => ?_)
    obtain ⟨d, rfl⟩ := h₁
    refine goes_oper_k rfl rfl (by decide) (fun K hK => ?_)
    go_simp
    refine hK _ _ ⟨⟨Nat.le_refl _, fun e he => ?_⟩, Ok.at ?_⟩
    · have hm := mem_listed he
      simp [go_sem] at hm
    clear hK K d
    refine Ok.step rfl (fun _ h₁ => ?_)
    obtain ⟨d, rfl⟩ := h₁
    rw [stepG_region_end]
    simp only [goes_go]
    refine ⟨ok_none _, Ok.at ?_⟩
    clear d
    exact hN3 _ _ ⟨i + 1, _, _, _, _, _, _, _, _, _, _, _, _, _, _, _, _, _, _, _, _, _, _, _, _, _, _, _, _, _, _, _, _, _, _, _, _, _, _, _, _, _, _, _, _, _, _, _, _, _, _, _, _, _, _, _, _, _, _, _, _, _, _, _, _, _, _, _, _, _, _, _, _, _, _, _, _, _, _, _, _, _, _, _, _, _, _, _, _, _, _, _, _, _, by omega, hwr, rfl⟩ (by simp [MuS]; omega)
end Go.Proofs.Ytiobhgemjbjipaa
