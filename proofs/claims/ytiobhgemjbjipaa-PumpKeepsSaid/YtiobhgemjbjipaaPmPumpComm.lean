/- A communication with several cases that are ready: the tape picks one of them, and one of its ways. Conditions stand as premises. -/
import Derived.Conc.CrowdSel
import Derived.Laws.NewFold
namespace Go.Proofs.Ytiobhgemjbjipaa
open Go.Conc
set_option linter.unusedVariables false
set_option linter.unusedSimpArgs false
theorem run_sel (P : Program) (w : World) (n : Nat) (hn : 0 < n) : ∃ a d, a < n ∧ (choose (.select n)).run P w = .ok a (w.at d) := by
  rw [run_choose_drew]
  by_cases hf : (Question.select n).forced = true
  · rw [if_pos hf]; exact ⟨0, w.drawn, hn, rfl⟩
  · rw [if_neg hf]; exact ⟨_, w.drawn + 1, by simp only [Question.cut]; exact Nat.mod_lt _ hn, rfl⟩
theorem run_ext (P : Program) (w : World) (s : String) (n : Nat) (hn : 0 < n) : ∃ a d, a < n ∧ (choose (.extern s n)).run P w = .ok a (w.at d) := by
  rw [run_choose_drew]
  by_cases hf : (Question.extern s n).forced = true
  · rw [if_pos hf]; exact ⟨0, w.drawn, hn, rfl⟩
  · rw [if_neg hf]
    refine ⟨_, w.drawn + 1, ?_, rfl⟩
    simp only [Question.cut]
    rw [if_neg (by omega)]
    exact Nat.mod_lt _ hn
section
variable {P : Program} {gs : Array Goroutine} {w w₁ : World} {sl : Option (Nat × Nat)} {i : Nat} {g g₂ : Goroutine} {es : Array Event} {cases : Array CommCase} {shape : CommShape} {blocking : Bool}
/-- What the machine's step is, case k having been picked in the way that is named. -/
structure Took (P : Program) (gs : Array Goroutine) (w w₁ : World) (sl : Option (Nat × Nat)) (i : Nat) (g g₂ : Goroutine) (es : Array Event) (cases : Array CommCase) (shape : CommShape) (k : Nat) (cc : CommCase) (way : Way) (d : Nat) : Prop where
  shut : ∀ c z, cc = rcase c z → way = .closed → runT P (crowd gs w sl) i = (.next (crowd (gs.setIfInBounds i (g₂.finishComm P cases shape k z false)) (w₁.at d) sl), MemOp.ofEvents i g.frame.fn g.frame.place es ++ #[{ g := i, fn := g₂.frame.fn, pos := g₂.frame.place, act := .recvClosed c }])
  buf : ∀ c z cap bf cl s r tm, cc = rcase c z → way = .buffer → w₁.heap[c]? = some (.chan cap bf cl s r tm) → partners (gs.setIfInBounds i ph) c true = [] → runT P (crowd gs w sl) i = (.next (crowd (gs.setIfInBounds i (g₂.finishComm P cases shape k (bf.getD 0 undef) true)) ((w₁.at d).setChan c cap (bf.extract 1 bf.size) cl s (r + 1) tm) sl), MemOp.ofEvents i g.frame.fn g.frame.place es ++ #[{ g := i, fn := g₂.frame.fn, pos := g₂.frame.place, act := .recv c r cap }, { g := i, fn := g₂.frame.fn, pos := g₂.frame.place, act := .recvDone c r }])
  send : ∀ c v z cap bf cl s r tm j kj gj, cc = scase c v z → way = .partner j kj → w₁.heap[c]? = some (.chan cap bf cl s r tm) → (gs.setIfInBounds i ph)[j]? = some gj → runT P (crowd gs w sl) i = (.next (crowd ((finishPartner P (gs.setIfInBounds i ph) j kj v).setIfInBounds i (g₂.finishComm P cases shape k undef false)) ((w₁.at d).setChan c cap bf cl (s + 1) (r + 1) tm) sl), MemOp.ofEvents i g.frame.fn g.frame.place es ++ #[{ g := i, fn := g₂.frame.fn, pos := g₂.frame.place, act := .send c s }, { g := j, fn := gj.frame.fn, pos := gj.frame.place, act := .recv c r cap }, { g := i, fn := g₂.frame.fn, pos := g₂.frame.place, act := .sendDone c s }, { g := j, fn := gj.frame.fn, pos := gj.frame.place, act := .recvDone c r }])
  recv : ∀ c z cap bf cl s r tm j kj gj, cc = rcase c z → way = .partner j kj → w₁.heap[c]? = some (.chan cap bf cl s r tm) → (gs.setIfInBounds i ph)[j]? = some gj → runT P (crowd gs w sl) i = (.next (crowd ((finishPartner P (gs.setIfInBounds i ph) j kj undef).setIfInBounds i (g₂.finishComm P cases shape k (offeredValue (gs.setIfInBounds i ph) j kj) true)) ((w₁.at d).setChan c cap bf cl (s + 1) (r + 1) tm) sl), MemOp.ofEvents i g.frame.fn g.frame.place es ++ #[{ g := j, fn := gj.frame.fn, pos := gj.frame.place, act := .send c s }, { g := i, fn := g₂.frame.fn, pos := g₂.frame.place, act := .recv c r cap }, { g := j, fn := gj.frame.fn, pos := gj.frame.place, act := .sendDone c s }, { g := i, fn := g₂.frame.fn, pos := g₂.frame.place, act := .recvDone c r }])
/-- SOME CASE IS READY: one of those that are is taken, in one of its ways; the world parts in the count of draws alone. -/
theorem comm_any (hi : gs[i]? = some g) (h : stepG P (i == 0) g w = .comm g₂ cases blocking shape w₁ es) (hm : ∀ cc ∈ cases, illMade w₁ cc = false)
    (hne : ∃ (k : Nat) (cc : CommCase), cases[k]? = some cc ∧ ways w₁ (gs.setIfInBounds i ph) cc ≠ []) :
    ∃ (k : Nat) (cc : CommCase) (way : Way) (d : Nat), cases[k]? = some cc ∧ way ∈ ways w₁ (gs.setIfInBounds i ph) cc ∧ Took P gs w w₁ sl i g g₂ es cases shape k cc way d := by
  have hz : ∀ m : Nat, cases.zipIdx.toList[m]? = (cases[m]?).map fun x => (x, m) := by intro m; simp
  obtain ⟨ready, hready⟩ : ∃ ready, ((cases.zipIdx.toList.map fun (c, k) => (k, c, ways w₁ (gs.setIfInBounds i ph) c)).filter fun (_, _, ws) => !ws.isEmpty) = ready := ⟨_, rfl⟩
  have hpos : 0 < ready.length := by
    obtain ⟨k, cc, hk, hw⟩ := hne
    refine List.length_pos_of_mem (a := (k, cc, ways w₁ (gs.setIfInBounds i ph) cc)) ?_
    rw [← hready, List.mem_filter]
    refine ⟨List.mem_map.2 ⟨(cc, k), List.mem_of_getElem? (i := k) (by rw [hz, hk]; rfl), rfl⟩, ?_⟩
    cases e : ways w₁ (gs.setIfInBounds i ph) cc with
    | nil => exact absurd e hw
    | cons a l => rfl
  obtain ⟨a, d1, ha, ea⟩ := run_sel P w₁ ready.length hpos
  obtain ⟨k, cc, ws, hka⟩ : ∃ k cc ws, ready[a]? = some (k, cc, ws) := ⟨_, _, _, List.getElem?_eq_getElem ha⟩
  have hmem : (k, cc, ws) ∈ ready := List.mem_of_getElem? hka
  rw [← hready, List.mem_filter, List.mem_map] at hmem
  obtain ⟨⟨⟨cc', k'⟩, hmz, heq⟩, hwe⟩ := hmem
  simp only [Prod.mk.injEq] at heq
  obtain ⟨rfl, rfl, rfl⟩ := heq
  have hck : cases[k']? = some cc' := by
    have := Array.mem_zipIdx_iff_getElem?.1 (Array.mem_toList_iff.1 hmz)
    simpa using this
  obtain ⟨ws, hws⟩ : ∃ ws, ways w₁ (gs.setIfInBounds i ph) cc' = ws := ⟨_, rfl⟩
  rw [hws] at hka hwe
  have hwp : 0 < ws.length := by
    cases ws with
    | nil => simp at hwe
    | cons x l => simp
  obtain ⟨b, d2, hb, eb⟩ := run_ext P (w₁.at d1) "which waiting goroutine is the partner" ws.length hwp
  have hnotE : ready.isEmpty = false := by cases ready with
    | nil => simp at hpos
    | cons x l => rfl
  have hill : cases.any (illMade w₁) = false := any_ill hm
  have hga : ready.getD a (0, default, []) = (k', cc', ws) := by rw [List.getD_eq_getElem?_getD, hka]; rfl
  have hgb : ws.getD b .closed = ws[b] := by rw [List.getD_eq_getElem?_getD, List.getElem?_eq_getElem hb]; rfl
  refine ⟨k', cc', ws[b], d2, hck, by rw [hws]; exact List.getElem_mem hb, ?_⟩
  generalize hway : ws[b] = way at hgb
  have hat : (w₁.at d1).at d2 = w₁.at d2 := rfl
  rw [hat] at eb
  constructor
  · intro c z hcc hcl
    subst hcc hcl
    rw [runT_crowd_comm hi h]
    unfold communicate
    simp only [hready, hnotE, Sem.run_bind, ea, Result.andThen_ok, hga, eb, hgb, Sem.run_pure, Bool.false_eq_true, if_false, set_stand]
    rw [if_neg (by rw [Bool.not_eq_true]; exact hill)]
    rfl
  · intro c z cap bf cl s r tm hcc hcl hc hp
    subst hcc hcl
    rw [runT_crowd_comm hi h]
    unfold communicate
    have hc' : (w₁.at d2).heap[c]? = some (.chan cap bf cl s r tm) := hc
    simp only [hready, hnotE, Sem.run_bind, ea, Result.andThen_ok, hga, eb, hgb, Sem.run_pure, Bool.false_eq_true, if_false, set_stand]
    rw [if_neg (by rw [Bool.not_eq_true]; exact hill)]
    simp only [rcase, hc', hp]
    rfl
  · intro c v z cap bf cl s r tm j kj gj hcc hcl hc hj
    subst hcc hcl
    rw [runT_crowd_comm hi h]
    unfold communicate
    have hc' : (w₁.at d2).heap[c]? = some (.chan cap bf cl s r tm) := hc
    have hgd : (gs.setIfInBounds i ph).getD j default = gj := by rw [Array.getD_eq_getD_getElem?, hj]; rfl
    simp only [hready, hnotE, Sem.run_bind, ea, Result.andThen_ok, hga, eb, hgb, Sem.run_pure, Bool.false_eq_true, if_false]
    rw [if_neg (by rw [Bool.not_eq_true]; exact hill)]
    simp only [scase, hc', hgd]
    rfl
  · intro c z cap bf cl s r tm j kj gj hcc hcl hc hj
    subst hcc hcl
    rw [runT_crowd_comm hi h]
    unfold communicate
    have hc' : (w₁.at d2).heap[c]? = some (.chan cap bf cl s r tm) := hc
    have hgd : (gs.setIfInBounds i ph).getD j default = gj := by rw [Array.getD_eq_getD_getElem?, hj]; rfl
    simp only [hready, hnotE, Sem.run_bind, ea, Result.andThen_ok, hga, eb, hgb, Sem.run_pure, Bool.false_eq_true, if_false]
    rw [if_neg (by rw [Bool.not_eq_true]; exact hill)]
    simp only [rcase, hc', hgd]
    rfl
end
end Go.Proofs.Ytiobhgemjbjipaa
