/- First, whole, beside leavers. Conditions stand as premises. -/
import Derived.Test.YtiobhgemjbjipaaPmG7
import Derived.Test.YtiobhgemjbjipaaPmPumpGather
import Derived.Test.YtiobhgemjbjipaaPmPumpMrgN
set_option linter.unusedSimpArgs false
set_option linter.unusedVariables false
namespace Go.Proofs.Ytiobhgemjbjipaa
open Go.Conc Go.RowKit Go.Conc.Lib
variable {Old : Nat → Prop} {w w0 : World} {Post : Value → World → Prop} {m n cp N c : Nat} {a : Option Addr} {L : List (List (List Int))} {E : PE} {nF : Int} {lv wsl : Value} {MB : Value → List Int → Prop} {c0 : Frame}
  {b₀ : Frame} {a₀ : Act} {ops₀ : Array Oper} {i₀ : Nat} {rest₀ : List Nat} {k₀ : List Item} {cs : List Frame}
noncomputable def t2F : Code := cSnd (cSnd bodyF)
noncomputable def t3F : Code := cSnd t2F
noncomputable def ops2F : Array Oper := cOps (cFst t2F)
theorem GotL.keep {Old : Nat → Prop} {w w' : World} {base : Nat} {V : Value} {G : List (Nat × List Int)} (h : GotL Old w base V G) (hs : w.heap.size ≤ w'.heap.size) (hb : ∀ (b : Nat) (vs : Array Value) (ty : TypeId), w.heap[b]? = some (Obj.cells vs ty) → w'.heap[b]? = some (Obj.cells vs ty)) : GotL Old w' base V G := by
  obtain ⟨a, c, h1, h2, h3, h4, h5⟩ := h
  refine ⟨a, c, h1, h2, h3, h4, h5.imp id ?_⟩
  rintro ⟨g, cur, e, k1, k2, k3, k4⟩
  have kk : ∀ (off : Nat) v, w.cell? ⟨g, off, none⟩ = some v → w'.cell? ⟨g, off, none⟩ = some v := fun off v hv => (cell_same (a := ⟨g, off, none⟩) ((hb _ _ _ k3).trans k3.symm)).trans hv
  refine ⟨g, cur, e, k1, k2, hb _ _ _ k3, fun j k bs hj => ?_⟩
  obtain ⟨l1, v, l2, l3⟩ := k4 j k bs hj
  exact ⟨kk _ _ l1, v, kk _ _ l2, l3.keep hs fun b hB _ => by
    obtain ⟨q1, q2, vs, q3⟩ := hB
    exact ⟨(hb _ _ _ q3).trans q3.symm, q1, q2, vs, hb _ _ _ q3⟩⟩
set_option maxRecDepth 100000 in
set_option maxHeartbeats 8000000 in
/-- Behind Join's return First comes to its receive, or to its close. -/
theorem first_begin (hE : E.Ok) (W : EW E MB) (hF : KJ E w0 N w) :
    Goes Try.prog true (R0 E) (D0 E N) (FStop E w0 N lv nF c c0 cs []) 40
      (G ((base 14).at ⟨#[lv, .int .i64 nF, undef, undef, .slice none 0 0, .chan (some c), undef, undef, undef, undef, .chan (some c), .chan (some c), lv, wsl, .chan (some E.O), undef, undef, undef, undef, undef, undef, undef, undef, undef, undef, undef, undef, undef, undef, undef, undef, undef, undef, undef, undef], []⟩ [.inRegion ops2F [4], .code t3F]) (c0 :: cs)) w := by
  have hF : KG E w0 N (.slice none 0 0) [] [] w := ⟨hF, World.ownsRow_nil _ _ _ _, fun y hy => by simp at hy, fun q hq => by simp at hq, fun y hy => by simp at hy⟩
  unfold FStop gF1 gFc
  simp only [ops2F, t2F, t3F, loop1F, loop2F, rest1F, rest2F, t8F, t4F, bodyF, Try.f14, Option.getD_some, cSnd, cFst, cIn, cOps]
  refine Goes.step rfl (fun _ h₁ => ?_)
  replace hF := hF.r0 hE W h₁
  clear h₁
  refine goes_oper_k rfl rfl (by decide) (fun K hK => ?_)
  go_simp
  refine hK _ _ ⟨d0_ev (fun e he => ?_), ?_⟩
  · have hm := mem_listed he
    simp [go_sem] at hm
  clear hK K
  refine Goes.step rfl (fun _ h₁ => ?_)
  replace hF := hF.r0 hE W h₁
  clear h₁
  rw [stepG_region_end]
  simp only [goes_go]
  refine ⟨d0_none _, ?_⟩
  refine Goes.step rfl (fun _ h₁ => ?_)
  replace hF := hF.r0 hE W h₁
  clear h₁
  rw [stepG_seq]
  simp only [goes_go]
  refine ⟨d0_none _, ?_⟩
  refine Goes.step rfl (fun _ h₁ => ?_)
  replace hF := hF.r0 hE W h₁
  clear h₁
  rw [stepG_region]
  simp only [goes_go, List.size_toArray, List.length_cons, List.length_nil, Nat.reduceAdd, Nat.zero_add, List.range, List.range.loop]
  refine ⟨d0_none _, ?_⟩
  refine Goes.step rfl (fun _ h₁ => ?_)
  replace hF := hF.r0 hE W h₁
  clear h₁
  refine goes_oper_k rfl rfl (by decide) (fun K hK => ?_)
  go_simp
  refine hK _ _ ⟨d0_ev (fun e he => ?_), ?_⟩
  · have hm := mem_listed he
    simp [go_sem] at hm
  clear hK K
  refine Goes.step rfl (fun _ h₁ => ?_)
  replace hF := hF.r0 hE W h₁
  clear h₁
  rw [stepG_region_end]
  simp only [goes_go]
  refine ⟨d0_none _, ?_⟩
  refine Goes.step rfl (fun _ h₁ => ?_)
  replace hF := hF.r0 hE W h₁
  clear h₁
  rw [stepG_seq]
  simp only [goes_go]
  refine ⟨d0_none _, ?_⟩
  refine Goes.step rfl (fun _ h₁ => ?_)
  replace hF := hF.r0 hE W h₁
  clear h₁
  rw [stepG_block]
  simp only [goes_go]
  refine ⟨d0_none _, ?_⟩
  refine Goes.step rfl (fun _ h₁ => ?_)
  replace hF := hF.r0 hE W h₁
  clear h₁
  rw [stepG_loop]
  simp only [goes_go]
  refine ⟨d0_none _, ?_⟩
  obtain ⟨oa, on, oc, hon1, hon2, hsl⟩ : ∃ a n cap, n ≤ ([] : List (Nat × Value × Value)).length ∧ ([] : List (Nat × Value × Value)).length ≤ n ∧ Value.slice none 0 0 = .slice a n cap := ⟨none, 0, 0, Nat.le_refl _, Nat.le_refl _, rfl⟩
  rw [hsl] at hF ⊢
  have HO := Lib.hid (show on = 0 from Nat.le_zero.1 hon1)
  clear hon1 hon2 hsl
  refine Goes.step rfl (fun _ h₁ => ?_)
  replace hF := hF.r0 hE W h₁
  clear h₁
  rw [stepG_seq]
  simp only [goes_go]
  refine ⟨d0_none _, ?_⟩
  refine Goes.step rfl (fun _ h₁ => ?_)
  replace hF := hF.r0 hE W h₁
  clear h₁
  rw [stepG_seq]
  simp only [goes_go]
  refine ⟨d0_none _, ?_⟩
  refine Goes.step rfl (fun _ h₁ => ?_)
  replace hF := hF.r0 hE W h₁
  clear h₁
  rw [stepG_region]
  simp only [goes_go, List.size_toArray, List.length_cons, List.length_nil, Nat.reduceAdd, Nat.zero_add, List.range, List.range.loop]
  refine ⟨d0_none _, ?_⟩
  refine Goes.step rfl (fun _ h₁ => ?_)
  replace hF := hF.r0 hE W h₁
  clear h₁
  refine goes_oper_k rfl rfl (by decide) (fun K hK => ?_)
  go_simp
  refine hK _ _ ⟨d0_ev (fun e he => ?_), ?_⟩
  · have hm := mem_listed he
    simp [go_sem] at hm
  clear hK K
  refine Goes.step rfl (fun _ h₁ => ?_)
  replace hF := hF.r0 hE W h₁
  clear h₁
  refine goes_oper_k rfl rfl (by decide) (fun K hK => ?_)
  go_simp
  refine hK _ _ ⟨d0_ev (fun e he => ?_), ?_⟩
  · have hm := mem_listed he
    simp [go_sem] at hm
  clear hK K
  refine Goes.step rfl (fun _ h₁ => ?_)
  replace hF := hF.r0 hE W h₁
  clear h₁
  refine goes_oper_k rfl rfl (by decide) (fun K hK => ?_)
  go_simp
  refine hK _ _ ⟨d0_ev (fun e he => ?_), ?_⟩
  · have hm := mem_listed he
    simp [go_sem] at hm
  clear hK K
  cases hd : decide ((on : Int) < nF)
  ·
    refine Goes.step rfl (fun _ h₁ => ?_)
    replace hF := hF.r0 hE W h₁
    clear h₁
    refine goes_oper_k rfl rfl (by decide) (fun K hK => ?_)
    have f0 := hd
    go_simp
    refine hK _ _ ⟨d0_ev (fun e he => ?_), ?_⟩
    · have hm := mem_listed he
      simp [go_sem, f0] at hm
    clear hK K f0
    refine Goes.step rfl (fun _ h₁ => ?_)
    replace hF := hF.r0 hE W h₁
    clear h₁
    rw [stepG_region_end]
    simp only [goes_go]
    refine ⟨d0_none _, ?_⟩
    refine Goes.step rfl (fun _ h₁ => ?_)
    replace hF := hF.r0 hE W h₁
    clear h₁
    rw [stepG_cond (t := false) rfl]
    simp only [goes_go, if_true, if_false, Bool.false_eq_true, ↓reduceIte]
    refine ⟨d0_none _, ?_⟩
    refine Goes.step rfl (fun _ h₁ => ?_)
    replace hF := hF.r0 hE W h₁
    clear h₁
    refine goes_exit rfl ?_
    refine ⟨d0_none _, ?_⟩
    refine Goes.step rfl (fun _ h₁ => ?_)
    replace hF := hF.r0 hE W h₁
    clear h₁
    rw [stepG_seq]
    simp only [goes_go]
    refine ⟨d0_none _, ?_⟩
    refine Goes.step rfl (fun _ h₁ => ?_)
    replace hF := hF.r0 hE W h₁
    clear h₁
    rw [stepG_region]
    simp only [goes_go, List.size_toArray, List.length_cons, List.length_nil, Nat.reduceAdd, Nat.zero_add, List.range, List.range.loop]
    refine ⟨d0_none _, ?_⟩
    refine Goes.step rfl (fun _ h₁ => ?_)
    replace hF := hF.r0 hE W h₁
    clear h₁
    refine goes_oper_k rfl rfl (by decide) (fun K hK => ?_)
    go_simp
    refine hK _ _ ⟨d0_ev (fun e he => ?_), ?_⟩
    · have hm := mem_listed he
      simp [go_sem] at hm
    clear hK K
    have hge : nF ≤ (on : Int) := by have := of_decide_eq_false hd; omega
    exact Goes.stop (fun w2 h₁ => ⟨_, (fun k => (#[lv, .int .i64 nF, undef, undef, .slice none 0 0, .chan (some c), .chan (some E.O), .slice oa on oc, undef, undef, .chan (some c), .chan (some c), lv, wsl, .chan (some E.O), .slice oa on oc, .int .i64 (on : Int), .int .i64 nF, .bool false, undef, undef, undef, undef, undef, undef, undef, undef, undef, undef, undef, .chan (some c), undef, undef, undef, undef] : Array Value).getD k undef), .inr ⟨rfl, by have := HO.out; simp; omega⟩, hF.r0 hE W h₁⟩)
  ·
    refine Goes.step rfl (fun _ h₁ => ?_)
    replace hF := hF.r0 hE W h₁
    clear h₁
    refine goes_oper_k rfl rfl (by decide) (fun K hK => ?_)
    have f0 := hd
    go_simp
    refine hK _ _ ⟨d0_ev (fun e he => ?_), ?_⟩
    · have hm := mem_listed he
      simp [go_sem, f0] at hm
    clear hK K f0
    refine Goes.step rfl (fun _ h₁ => ?_)
    replace hF := hF.r0 hE W h₁
    clear h₁
    rw [stepG_region_end]
    simp only [goes_go]
    refine ⟨d0_none _, ?_⟩
    refine Goes.step rfl (fun _ h₁ => ?_)
    replace hF := hF.r0 hE W h₁
    clear h₁
    rw [stepG_cond (t := true) rfl]
    simp only [goes_go, if_true, if_false, Bool.false_eq_true, ↓reduceIte]
    refine ⟨d0_none _, ?_⟩
    refine Goes.step rfl (fun _ h₁ => ?_)
    replace hF := hF.r0 hE W h₁
    clear h₁
    rw [stepG_skip]
    simp only [goes_go]
    refine ⟨d0_none _, ?_⟩
    refine Goes.step rfl (fun _ h₁ => ?_)
    replace hF := hF.r0 hE W h₁
    clear h₁
    rw [stepG_block]
    simp only [goes_go]
    refine ⟨d0_none _, ?_⟩
    refine Goes.step rfl (fun _ h₁ => ?_)
    replace hF := hF.r0 hE W h₁
    clear h₁
    rw [stepG_seq]
    simp only [goes_go]
    refine ⟨d0_none _, ?_⟩
    refine Goes.step rfl (fun _ h₁ => ?_)
    replace hF := hF.r0 hE W h₁
    clear h₁
    rw [stepG_region]
    simp only [goes_go, List.size_toArray, List.length_cons, List.length_nil, Nat.reduceAdd, Nat.zero_add, List.range, List.range.loop]
    refine ⟨d0_none _, ?_⟩
    refine Goes.step rfl (fun _ h₁ => ?_)
    replace hF := hF.r0 hE W h₁
    clear h₁
    refine goes_oper_k rfl rfl (by decide) (fun K hK => ?_)
    go_simp
    refine hK _ _ ⟨d0_ev (fun e he => ?_), ?_⟩
    · have hm := mem_listed he
      simp [go_sem] at hm
    clear hK K
    have hlt : (on : Int) < nF := of_decide_eq_true hd
    exact Goes.stop (fun w2 h₁ => ⟨_, (fun k => (#[lv, .int .i64 nF, undef, undef, .slice none 0 0, .chan (some c), .chan (some E.O), .slice oa on oc, undef, undef, .chan (some c), .chan (some c), lv, wsl, .chan (some E.O), .slice oa on oc, .int .i64 (on : Int), .int .i64 nF, .bool true, undef, .chan (some E.O), undef, undef, undef, undef, undef, undef, undef, undef, undef, undef, undef, undef, undef, undef] : Array Value).getD k undef), .inl ⟨rfl, by have := HO.out; simp; omega⟩, hF.r0 hE W h₁⟩)
set_option maxRecDepth 100000 in
set_option maxHeartbeats 8000000 in
theorem first_ok (hR : R3 Old w (.slice a n cp) L) (hsm : Sm L) (hold : ∀ b, Old b → b < w.heap.size) (hm : m + 200 < 1000000)
    (hS : ∀ Old' w' V gl, Ext Old Old' w w' → (∀ b, Old' b → b < w'.heap.size) → GotL Old' w' w.heap.size V gl → Merge False gl L → (gl.length : Int) = min (max nF 0) (tl L : Int) → Ok Try.prog Post Old' (m + 102) (G (b₀.at (a₀.put ((ops₀[i₀]?).bind (·.dst)) V) (.inRegion ops₀ rest₀ :: k₀)) cs) w') :
    Ok Try.prog Post Old m (G ((base 14).at ⟨#[.slice a n cp, .int .i64 nF, undef, undef, undef, undef, undef, undef, undef, undef, undef, undef, undef, undef, undef, undef, undef, undef, undef, undef, undef, undef, undef, undef, undef, undef, undef, undef, undef, undef, undef, undef, undef, undef, undef], []⟩ [.code bodyF]) ((b₀.at a₀ (.inRegion ops₀ (i₀ :: rest₀) :: k₀)) :: cs)) w := by
  have hRc := hR.ext (Ext.alloc Old w (.chan 0 #[] false 0 0 false))
  obtain ⟨wc, hwc⟩ : ∃ wc, wc = w.alloc (.chan 0 #[] false 0 0 false) := ⟨_, rfl⟩
  have hec : Ext Old Old w wc := hwc ▸ Ext.alloc Old w _
  have hcc : wc.heap[w.heap.size]? = some (.chan 0 #[] false 0 0 false) := by rw [hwc]; exact heap_alloc_new w _
  have hsc : w.heap.size < wc.heap.size := lt_of_heap hcc
  rw [← hwc] at hRc
  have hold' : ∀ b, Old b → b < wc.heap.size := fun b hb => by have := hold b hb; omega
  obtain ⟨RS, VS, hnL, hRS, hsl, hrow, hal⟩ := open3 hRc
  have hnL1 : n ≤ L.length := by omega
  have hnL2 : L.length ≤ n := by omega
  clear hnL
  have hn100 : n ≤ 100 := by have := hsm.1; omega
  have hlen : ∀ k, k < n → (VS k).length ≤ 1000 ∧ ∀ v ∈ VS k, ∃ bs, R1 Old wc v bs ∧ bs.length ≤ 140737488355328 := by
    intro k hk
    have hkl : k < L.length := by omega
    have h1 := hal k _ (List.getElem?_eq_getElem hkl)
    have h2 := hsm.2 _ (List.getElem_mem hkl)
    refine ⟨by rw [h1.1]; exact h2.1, fun v hv => ?_⟩
    obtain ⟨j, hj⟩ := List.mem_iff_getElem?.1 hv
    have hjl : j < L[k].length := by have := (List.getElem?_eq_some_iff.1 hj).1; have := h1.1; omega
    exact ⟨_, h1.2 j v _ hj (List.getElem?_eq_getElem hjl), by have := h2.2 _ (List.getElem_mem hjl); omega⟩
  have hrow' : ∀ (k : Nat) v, RS[k]? = some v → SlOf Old wc v (VS k) ∧ (VS k).length < 1000000 := fun k v hv => ⟨hrow k v hv, by have := (hlen k (by have := (List.getElem?_eq_some_iff.1 hv).1; omega)).1; omega⟩
  have htot : tot VS n ≤ 1000 * n := tot_le (fun k hk => (hlen k hk).1) n (Nat.le_refl _)
  obtain ⟨nn, hnn1, hnn2, hnn3⟩ : ∃ nn, tot VS n + 1 ≤ nn ∧ nF ≠ ((nn : Nat) : Int) ∧ nn < 1000000 := by
    by_cases e : nF = ((tot VS n + 1 : Nat) : Int)
    · exact ⟨tot VS n + 2, by omega, by omega, by omega⟩
    · exact ⟨tot VS n + 1, by omega, e, by omega⟩
  obtain ⟨c, hcw⟩ : ∃ c, c = w.heap.size := ⟨_, rfl⟩
  simp only [ops2F, t2F, t3F, loop1F, loop2F, rest1F, rest2F, t8F, t4F, bodyF, Try.f14, Option.getD_some, cSnd, cFst, cIn, cOps]
  refine Ok.step rfl (fun _ h₁ => ?_)
  obtain ⟨d, rfl⟩ := h₁
  rw [stepG_seq]
  simp only [goes_go]
  refine ⟨ok_none _, Ok.at ?_⟩
  clear d
  refine Ok.step rfl (fun _ h₁ => ?_)
  obtain ⟨d, rfl⟩ := h₁
  rw [stepG_region]
  simp only [goes_go, List.size_toArray, List.length_cons, List.length_nil, Nat.reduceAdd, Nat.zero_add, List.range, List.range.loop]
  refine ⟨ok_none _, Ok.at ?_⟩
  clear d
  refine Ok.step rfl (fun _ h₁ => ?_)
  obtain ⟨d, rfl⟩ := h₁
  refine goes_oper_k rfl rfl (by decide) (fun K hK => ?_)
  go_simp
  refine hK _ _ ⟨⟨Nat.le_refl _, fun e he => ?_⟩, Ok.at ?_⟩
  · have hm := mem_listed he
    simp [go_sem] at hm
  clear hK K d
  refine Ok.step rfl (fun _ h₁ => ?_)
  obtain ⟨d, rfl⟩ := h₁
  rw [stepG_region_end]
  simp only [goes_go]
  refine ⟨ok_none _, Ok.at ?_⟩
  clear d
  refine Ok.step rfl (fun _ h₁ => ?_)
  obtain ⟨d, rfl⟩ := h₁
  rw [stepG_seq]
  simp only [goes_go]
  refine ⟨ok_none _, Ok.at ?_⟩
  clear d
  refine Ok.step rfl (fun _ h₁ => ?_)
  obtain ⟨d, rfl⟩ := h₁
  rw [stepG_region]
  simp only [goes_go, List.size_toArray, List.length_cons, List.length_nil, Nat.reduceAdd, Nat.zero_add, List.range, List.range.loop]
  refine ⟨ok_none _, Ok.at ?_⟩
  clear d
  refine Ok.opv rfl rfl (by decide) (fun _ h₁ => ?_)
  obtain ⟨d, rfl⟩ := h₁
  have hmk : (Instr.makeChan 44 (.int .i64 0)).run Try.prog (w.at d) = .ok (.chan (some w.heap.size)) ((w.at d).alloc (.chan 0 #[] false 0 0 false)) := run_makeChan (w := w.at d) (t := 44) rfl rfl .i64 0 (by decide) (by decide)
  refine ⟨.chan (some w.heap.size), (w.at d).alloc (.chan 0 #[] false 0 0 false), run_v hmk, by simp, fun e he => ?_, ?_⟩
  · have he' : e ∈ (Instr.makeChan 44 (.int .i64 0)).events Try.prog (w.at d) #[] := by
      rw [← ev_v hmk]; exact he
    rw [show (Instr.makeChan 44 (.int .i64 0)).events Try.prog (w.at d) #[] = #[] from events_makeChan (t := 44) rfl rfl .i64 0 (by decide) (by decide) #[]] at he'
    simp at he'
  rw [show (w.at d).alloc (.chan 0 #[] false 0 0 false) = (w.alloc (.chan 0 #[] false 0 0 false)).at d from rfl]
  refine Ok.at ?_
  rw [← hwc, ← hcw]
  rw [← hcw] at hcc hsc
  have hca : c ≤ w.heap.size := Nat.le_of_eq hcw
  have hcb : w.heap.size ≤ c := Nat.le_of_eq hcw.symm
  clear d hcw hwc hmk
  walk_nrm
  refine Ok.step rfl (fun _ h₁ => ?_)
  obtain ⟨d, rfl⟩ := h₁
  refine goes_oper_k rfl rfl (by decide) (fun K hK => ?_)
  go_simp
  refine hK _ _ ⟨⟨Nat.le_refl _, fun e he => ?_⟩, Ok.at ?_⟩
  · have hm := mem_listed he
    simp [go_sem] at hm
  clear hK K d
  refine Ok.step rfl (fun _ h₁ => ?_)
  obtain ⟨d, rfl⟩ := h₁
  rw [stepG_region_end]
  simp only [goes_go]
  refine ⟨ok_none _, Ok.at ?_⟩
  clear d
  refine Ok.step rfl (fun _ h₁ => ?_)
  obtain ⟨d, rfl⟩ := h₁
  rw [stepG_seq]
  simp only [goes_go]
  refine ⟨ok_none _, Ok.at ?_⟩
  clear d
  refine Ok.step rfl (fun _ h₁ => ?_)
  obtain ⟨d, rfl⟩ := h₁
  rw [stepG_region]
  simp only [goes_go, List.size_toArray, List.length_cons, List.length_nil, Nat.reduceAdd, Nat.zero_add, List.range, List.range.loop]
  refine ⟨ok_none _, Ok.at ?_⟩
  clear d
  refine Ok.step rfl (fun _ h₁ => ?_)
  obtain ⟨d, rfl⟩ := h₁
  refine goes_oper_k rfl rfl (by decide) (fun K hK => ?_)
  go_simp
  refine hK _ _ ⟨⟨Nat.le_refl _, fun e he => ?_⟩, Ok.at ?_⟩
  · have hm := mem_listed he
    simp [go_sem] at hm
  clear hK K d
  refine Ok.step rfl (fun _ h₁ => ?_)
  obtain ⟨d, rfl⟩ := h₁
  refine goes_oper_k rfl rfl (by decide) (fun K hK => ?_)
  go_simp
  refine hK _ _ ⟨⟨Nat.le_refl _, fun e he => ?_⟩, Ok.at ?_⟩
  · have hm := mem_listed he
    simp [go_sem] at hm
  clear hK K d
  refine Ok.step rfl (fun _ h₁ => ?_)
  obtain ⟨d, rfl⟩ := h₁
  refine goes_call rfl rfl (by decide) rfl Try.func17 nm_ways rfl ⟨ok_none _, Ok.at ?_⟩
  clear d
  walk_nrmf Try.f17
  refine ways_ok (VS := VS) hRS (by omega) hsl hrow' hold' (fun Cr out w1 hw => ?_)
  obtain ⟨ba, cap, bi, rfl, hJ⟩ := jin_of (st := some c) hw (fun c' hc' => by cases hc'; exact ⟨_, _, _, hcc⟩) hold' (fun k hk => (hlen k hk).2)
  walk_nrm
  refine Ok.step rfl (fun _ h₁ => ?_)
  obtain ⟨d, rfl⟩ := h₁
  refine goes_call rfl rfl (by decide) rfl Try.func16 nm_join rfl ⟨ok_none _, Ok.at ?_⟩
  clear d
  walk_nrmf Try.f16
  refine join_ok (nn := nn) (b0 := true) (bi := bi) (oi := 0) hJ (by omega) hnn1 (fun E w0 hE => ?_)
  refine ⟨ExitF E w0 (.slice a n cp) nF c (b₀.at a₀ (.inRegion ops₀ (i₀ :: rest₀) :: k₀)) cs, 40, fun w' N hF => ?_, fun b ys g' w' hx hr hO hSt => ?_⟩
  · have hfin := first_begin (lv := .slice a n cp) (wsl := .slice ba n cap) (nF := nF) (c := c) (c0 := (b₀.at a₀ (.inRegion ops₀ (i₀ :: rest₀) :: k₀))) (cs := cs) hE.ok hE.ew hF
    simp only [ops2F, t2F, t3F, loop1F, loop2F, rest1F, rest2F, t8F, t4F, bodyF, Try.f14, Option.getD_some, cSnd, cFst, cIn, cOps] at hfin
    exact Goes.weaken (fun _ _ x => x) (fun _ _ _ x => x) (fun g w hx => first_recv hE.ok hE.ew hE.hst nn [] g w (by simpa using hnn3) (by simpa using hnn2) (fun _ => by omega) (by simp; omega) hx) hfin
  · obtain ⟨N, sl, J, hx⟩ := hx
    have hN := old_exit hold' hw hE
    have hex : ∀ {N w'}, KJ E w0 N w' → Ext Old (fun b => Old b ∨ b = E.Wg) w w' := fun hKJ => ext_exit hec hw (fun c' hc' => by cases hc'; omega) hE hKJ
    have hb0 : w.heap.size ≤ E.N0 := by have := hw.e.size; have := hE.low.1; have := hE.n0; omega
    have hal' : ∀ (k : Nat) row, L[k]? = some row → Al (R1 Old w1) (VS k) row := fun k row hk => (hal k row hk).imp fun _ _ x => x.ext hw.e
    rcases hx with ⟨rfl, rfl, hKG, hlt⟩ | ⟨rfl, rfl, zs, t, rfl, hKG, hz⟩
    · have hn0 := hKG.j.n0
      have hn1 := hKG.j.n1
      obtain ⟨gl, hg1, hg2, hg3⟩ := got_list (base := w.heap.size) (Old := fun b => Old b ∨ b = E.Wg) hE.ew hKG hb0 hN
      have hmg : Merge True gl L := got_merge hg2 (fun q hq => by have := hg3 q hq; rw [hE.hn] at this; omega) hal' fun k hk => by
        obtain ⟨l, e1, e2⟩ := hr k (by omega)
        exact ⟨l, e1, fun _ => e2 (.inl rfl)⟩
      have hgl : gl.length = ys.length := hg2.1.symm
      have htl : gl.length = tl L := hmg.len trivial
      obtain ⟨s, r, tm, hcw'⟩ := hSt rfl c rfl
      refine first_out1 hE.ew (fun b hb => by have := hN b hb; omega) hO ⟨s, r, tm, hcw'⟩ (fun w'' h1 h2 h3 => ?_)
      have he := hex hKG.j
      refine (hS _ w'' sl gl ⟨by have := he.size; omega, fun b hb => ?_, he.old, he.oo.trans h3⟩ (fun b hb => by have := hN b hb; omega) (hg1.keep h1 fun b vs ty hb => ?_) hmg.less (by omega)).less (by omega)
      · rw [h2 b (by have := he.size; omega) (by omega)]
        exact he.low b hb
      · rw [h2 b (lt_of_heap hb) (fun e => by rw [e, hcw'] at hb; cases hb)]
        exact hb
    · have hn0 := hKG.j.n0
      have hn1 := hKG.j.n1
      obtain ⟨gl, hg1, hg2, hg3⟩ := got_list (base := w.heap.size) (Old := fun b => Old b ∨ b = E.Wg) hE.ew hKG hb0 hN
      have hmg : Merge False gl L := got_merge hg2 (fun q hq => by have := hg3 q hq; rw [hE.hn] at this; omega) hal' fun k hk => by
        obtain ⟨l, e1, e2⟩ := hr k (by omega)
        rw [List.filter_append, List.map_append, List.append_assoc] at e1
        exact ⟨_, e1, fun h => h.elim⟩
      have hgl : gl.length = zs.length := hg2.1.symm
      have htl : gl.length ≤ tl L := hmg.le
      refine first_out2 hE.ew ((hS _ w' sl gl (hex hKG.j) (fun b hb => by have := hN b hb; omega) hg1 hmg (by omega)).less (by omega))
end Go.Proofs.Ytiobhgemjbjipaa
