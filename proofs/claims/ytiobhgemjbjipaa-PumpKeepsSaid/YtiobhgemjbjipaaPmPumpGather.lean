/- Gather, whole, beside leavers. Conditions stand as premises. -/
import Derived.Test.YtiobhgemjbjipaaPmPumpCallJ
set_option linter.unusedSimpArgs false
set_option linter.unusedVariables false
namespace Go.Proofs.Ytiobhgemjbjipaa
open Go.Conc Go.RowKit Go.Conc.Lib
variable {Old : Nat → Prop} {w : World} {Post : Value → World → Prop} {m n cp : Nat} {a : Option Addr} {L : List (List (List Int))}
  {b₀ : Frame} {a₀ : Act} {ops₀ : Array Oper} {i₀ : Nat} {rest₀ : List Nat} {k₀ : List Item} {cs : List Frame}
theorem nm_ways : (Try.f17.name == "runtime.NumGoroutine") = false := by kernel_rfl
theorem nm_join : (Try.f16.name == "runtime.NumGoroutine") = false := by kernel_rfl
set_option maxRecDepth 100000 in
set_option maxHeartbeats 8000000 in
theorem gather_ok (hR : R3 Old w (.slice a n cp) L) (hsm : Sm L) (hold : ∀ b, Old b → b < w.heap.size) (hm : m + 200 < 1000000)
    (hS : ∀ Old' w' V gl, Ext Old Old' w w' → (∀ b, Old' b → b < w'.heap.size) → GotL Old' w' w.heap.size V gl → Merge True gl L → Ok Try.prog Post Old' (m + 102) (G (b₀.at (a₀.put ((ops₀[i₀]?).bind (·.dst)) V) (.inRegion ops₀ rest₀ :: k₀)) cs) w') :
    Ok Try.prog Post Old m (G ((base 9).at ⟨#[.slice a n cp, undef, undef, undef, undef, undef, undef, undef, undef, undef, undef, undef, undef, undef, undef, undef], []⟩ [.code bodyG]) ((b₀.at a₀ (.inRegion ops₀ (i₀ :: rest₀) :: k₀)) :: cs)) w := by
  obtain ⟨RS, VS, hnL, hRS, hsl, hrow, hal⟩ := open3 hR
  have hnL1 : n ≤ L.length := by omega
  have hnL2 : L.length ≤ n := by omega
  clear hnL
  have hn100 : n ≤ 100 := by have := hsm.1; omega
  have hlen : ∀ k, k < n → (VS k).length ≤ 1000 ∧ ∀ v ∈ VS k, ∃ bs, R1 Old w v bs ∧ bs.length ≤ 140737488355328 := by
    intro k hk
    have hkl : k < L.length := by omega
    have h1 := hal k _ (List.getElem?_eq_getElem hkl)
    have h2 := hsm.2 _ (List.getElem_mem hkl)
    refine ⟨by rw [h1.1]; exact h2.1, fun v hv => ?_⟩
    obtain ⟨j, hj⟩ := List.mem_iff_getElem?.1 hv
    have hjl : j < L[k].length := by have := (List.getElem?_eq_some_iff.1 hj).1; have := h1.1; omega
    exact ⟨_, h1.2 j v _ hj (List.getElem?_eq_getElem hjl), by have := h2.2 _ (List.getElem_mem hjl); omega⟩
  have hrow' : ∀ (k : Nat) v, RS[k]? = some v → SlOf Old w v (VS k) ∧ (VS k).length < 1000000 := fun k v hv => ⟨hrow k v hv, by have := (hlen k (by have := (List.getElem?_eq_some_iff.1 hv).1; omega)).1; omega⟩
  have htot : tot VS n ≤ 1000 * n := tot_le (fun k hk => (hlen k hk).1) n (Nat.le_refl _)
  simp only [ops2G, blk0G, loopG, restG, tailG, bodyG, Try.f9, Option.getD_some, cSnd, cFst, cIn, cOps]
  refine Ok.step rfl (fun _ h₁ => ?_)
  obtain ⟨d, rfl⟩ := h₁
  rw [stepG_seq]
  simp only [goes_go]
  refine ⟨ok_none _, Ok.at ?_⟩
  clear d
  refine Ok.step rfl (fun _ h₁ => ?_)
  obtain ⟨d, rfl⟩ := h₁
  rw [stepG_region]
  simp only [goes_go, List.size_toArray, List.length_cons, List.length_nil, Nat.reduceAdd, Nat.zero_add, List.range, List.range.loop]
  refine ⟨ok_none _, Ok.at ?_⟩
  clear d
  refine Ok.step rfl (fun _ h₁ => ?_)
  obtain ⟨d, rfl⟩ := h₁
  refine goes_oper_k rfl rfl (by decide) (fun K hK => ?_)
  go_simp
  refine hK _ _ ⟨⟨Nat.le_refl _, fun e he => ?_⟩, Ok.at ?_⟩
  · have hm := mem_listed he
    simp [go_sem] at hm
  clear hK K d
  refine Ok.step rfl (fun _ h₁ => ?_)
  obtain ⟨d, rfl⟩ := h₁
  rw [stepG_region_end]
  simp only [goes_go]
  refine ⟨ok_none _, Ok.at ?_⟩
  clear d
  refine Ok.step rfl (fun _ h₁ => ?_)
  obtain ⟨d, rfl⟩ := h₁
  rw [stepG_seq]
  simp only [goes_go]
  refine ⟨ok_none _, Ok.at ?_⟩
  clear d
  refine Ok.step rfl (fun _ h₁ => ?_)
  obtain ⟨d, rfl⟩ := h₁
  rw [stepG_region]
  simp only [goes_go, List.size_toArray, List.length_cons, List.length_nil, Nat.reduceAdd, Nat.zero_add, List.range, List.range.loop]
  refine ⟨ok_none _, Ok.at ?_⟩
  clear d
  refine Ok.step rfl (fun _ h₁ => ?_)
  obtain ⟨d, rfl⟩ := h₁
  refine goes_oper_k rfl rfl (by decide) (fun K hK => ?_)
  go_simp
  refine hK _ _ ⟨⟨Nat.le_refl _, fun e he => ?_⟩, Ok.at ?_⟩
  · have hm := mem_listed he
    simp [go_sem] at hm
  clear hK K d
  refine Ok.step rfl (fun _ h₁ => ?_)
  obtain ⟨d, rfl⟩ := h₁
  rw [stepG_region_end]
  simp only [goes_go]
  refine ⟨ok_none _, Ok.at ?_⟩
  clear d
  refine Ok.step rfl (fun _ h₁ => ?_)
  obtain ⟨d, rfl⟩ := h₁
  rw [stepG_seq]
  simp only [goes_go]
  refine ⟨ok_none _, Ok.at ?_⟩
  clear d
  refine Ok.step rfl (fun _ h₁ => ?_)
  obtain ⟨d, rfl⟩ := h₁
  rw [stepG_seq]
  simp only [goes_go]
  refine ⟨ok_none _, Ok.at ?_⟩
  clear d
  refine Ok.step rfl (fun _ h₁ => ?_)
  obtain ⟨d, rfl⟩ := h₁
  rw [stepG_region]
  simp only [goes_go, List.size_toArray, List.length_cons, List.length_nil, Nat.reduceAdd, Nat.zero_add, List.range, List.range.loop]
  refine ⟨ok_none _, Ok.at ?_⟩
  clear d
  refine Ok.step rfl (fun _ h₁ => ?_)
  obtain ⟨d, rfl⟩ := h₁
  refine goes_oper_k rfl rfl (by decide) (fun K hK => ?_)
  go_simp
  refine hK _ _ ⟨⟨Nat.le_refl _, fun e he => ?_⟩, Ok.at ?_⟩
  · have hm := mem_listed he
    simp [go_sem] at hm
  clear hK K d
  refine Ok.step rfl (fun _ h₁ => ?_)
  obtain ⟨d, rfl⟩ := h₁
  refine goes_call rfl rfl (by decide) rfl Try.func17 nm_ways rfl ⟨ok_none _, Ok.at ?_⟩
  clear d
  walk_nrmf Try.f17
  refine ways_ok (VS := VS) hRS (by omega) hsl hrow' hold (fun Cr out w1 hw => ?_)
  obtain ⟨ba, cap, bi, rfl, hJ⟩ := jin_of (st := none) hw (fun c hc => by cases hc) hold (fun k hk => (hlen k hk).2)
  walk_nrm
  refine Ok.step rfl (fun _ h₁ => ?_)
  obtain ⟨d, rfl⟩ := h₁
  refine goes_call rfl rfl (by decide) rfl Try.func16 nm_join rfl ⟨ok_none _, Ok.at ?_⟩
  clear d
  walk_nrmf Try.f16
  refine join_ok (nn := tot VS n + 1) (b0 := false) (bi := bi) (oi := 0) hJ (by omega) (Nat.le_refl _) (fun E w0 hE => ?_)
  refine ⟨ExitG E w0 (.slice a n cp) (.slice ba n cap) (b₀.at a₀ (.inRegion ops₀ (i₀ :: rest₀) :: k₀)) cs, 10, fun w' N hF => ?_, fun b ys g' w' hx hr _ _ => ?_⟩
  · have hfin := gath_begin (lv := .slice a n cp) (wsl := .slice ba n cap) (c := (b₀.at a₀ (.inRegion ops₀ (i₀ :: rest₀) :: k₀))) (cs := cs) hE.ok hE.ew (n := tot VS n + 1) (by omega) (J7 := undef) hF
    simp only [ops2G, blk0G, loopG, restG, tailG, bodyG, Try.f9, Option.getD_some, cSnd, cFst, cIn, cOps] at hfin
    exact hfin
  · obtain ⟨N, sl, J, rfl, hKG⟩ := hx
    refine gath_out hE.ew ?_
    have hN := old_exit hold hw hE
    have hn0 := hKG.j.n0
    have hn1 := hKG.j.n1
    obtain ⟨gl, hg1, hg2, hg3⟩ := got_list (base := w.heap.size) (Old := fun b => Old b ∨ b = E.Wg) hE.ew hKG (by have := hw.e.size; have := hE.low.1; have := hE.n0; omega) hN
    refine (hS _ w' sl gl (ext_exit (.refl _ _) hw (fun c hc => by cases hc) hE hKG.j) (fun b hb => by have := hN b hb; omega) hg1 ?_).less (by omega)
    refine got_merge hg2 (fun q hq => by have := hg3 q hq; rw [hE.hn] at this; omega) (fun k row hk => (hal k row hk).imp fun _ _ x => x.ext hw.e) fun k hk => ?_
    obtain ⟨l, e1, e2⟩ := hr k (by omega)
    exact ⟨l, e1, fun _ => e2 (.inr rfl)⟩
end Go.Proofs.Ytiobhgemjbjipaa
