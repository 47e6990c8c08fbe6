/- Rows of rows that are made: a make, an append of one, an append of zeros; what these list. Conditions stand as premises. -/
import Derived.Test.YtiobhgemjbjipaaPmPumpOne
import Derived.Lib.AppendZerosOnto
import Derived.Laws.AppendOwn
import Derived.Conc.AppendEvents3
set_option linter.unusedSimpArgs false
set_option linter.unusedVariables false
namespace Go.Proofs.Ytiobhgemjbjipaa
open Go.Conc Go.RowKit Go.Conc.Lib
variable {Old : Nat → Prop} {w : World} {base n k : Nat} {v : Value} {xs : List Value}
def nilS : Value := .slice none 0 0
theorem info_rows : ∃ i, Try.prog.info? 29 = some i ∧ i.zero = some (.slice none 0 0) ∧ i.size = 1 ∧ i.bytes = 24 := by
  obtain ⟨i, hi⟩ : ∃ i, Try.prog.info? 29 = some i := ⟨_, rfl⟩
  have h3 : i.zero = some (.slice none 0 0) ∧ i.size = 1 ∧ i.bytes = 24 := by
    have : Try.prog.info? 29 = some i := hi
    revert hi
    intro hi
    cases hi
    exact ⟨by kernel_rfl, by kernel_rfl, by kernel_rfl⟩
  exact ⟨i, hi, h3⟩
theorem made_list (n : Nat) : madeCells #[.slice none 0 0] n = (List.replicate n nilS).toArray := by
  apply Array.ext
  · simp [madeCells]
  · intro i h1 h2
    simp [madeCells, Nat.mod_one, nilS]
theorem zero_list (n : Nat) : (Builtin.zeroCells #[.slice none 0 0] n).toList = List.replicate n nilS := by
  refine List.ext_getElem (by simp [Builtin.zeroCells]) fun i h1 h2 => ?_
  simp [Builtin.zeroCells, Nat.mod_one, nilS]
theorem make_rows3 (w : World) (n : Nat) (hn : n ≤ 1000000) : (Instr.makeSlice 22 (.int .i64 (n : Int)) (.int .i64 (n : Int))).run Try.prog w = .ok (.slice (some ⟨w.heap.size, 0, none⟩) n n) (w.alloc (.cells (List.replicate n nilS).toArray 29)) ∧
    ∀ es, (Instr.makeSlice 22 (.int .i64 (n : Int)) (.int .i64 (n : Int))).events Try.prog w es = es := by
  obtain ⟨i, hi, hz, h4, h5⟩ := info_rows
  refine ⟨?_, fun es => events_make (P := Try.prog) w 22 29 i (.slice none 0 0) Try.underlying22 hi hz .i64 .i64 (n : Int) (n : Int) (by omega) (Int.le_refl _) (by rw [h5]; omega) (by omega) (by rw [h5]; omega) es⟩
  rw [run_make (P := Try.prog) w 22 29 i (.slice none 0 0) Try.underlying22 hi hz .i64 .i64 (n : Int) (n : Int) (by omega) (Int.le_refl _) (by rw [h5]; omega) (by omega), h4]
  simp only [Int.toNat_natCast, Nat.mul_one]
  rw [show (Value.slice none 0 0).cells = #[.slice none 0 0] from rfl, made_list]
theorem owns_made (hb : base ≤ w.heap.size) (hn : n ≤ maxLen) : (w.alloc (.cells (List.replicate n nilS).toArray 29)).ownsRow base 29 1 (.slice (some ⟨w.heap.size, 0, none⟩) n n) n (List.replicate n nilS) := by
  refine ⟨by simp, .inr ⟨w.heap.size, n, _, rfl, hb, heap_alloc_new w _, Nat.le_refl _, hn, by simp, ?_⟩⟩
  simp
theorem append_zeros (hown : w.ownsRow base 29 1 v n xs) (hb : base ≤ w.heap.size) (hn : n + k ≤ 1000000) {ty : TypeId} :
    ∃ v' w', (Builtin.append_ #[22, 3] ty #[v, .int .i64 (k : Int)]).run Try.prog w = .ok v' w' ∧ w'.ownsRow base 29 1 v' (n + k) (xs ++ List.replicate k nilS) ∧ w.grownBy w' v.ownBlock ∧
      ∀ e ∈ (Builtin.append_ #[22, 3] ty #[v, .int .i64 (k : Int)]).events Try.prog w #[], (∃ (a : Addr) (b s : Bool), e = ⟨.cell a, b, s⟩ ∧ some a.block = v.ownBlock) ∨ e = ⟨.mark .noRoom, false, true⟩ := by
  obtain ⟨i, hi, hz, hs, hby⟩ := info_rows
  have ht := Try.underlying22
  have htn := Try.underlying3
  have hmx : n + k ≤ maxLen := by unfold maxLen; omega
  have hw : IntKind.i64.wrap (k : Int) = k := by rw [IntKind.wrap_i64]; omega
  have h0w : IntKind.i64.wrap 0 = 0 := by rw [IntKind.wrap_i64]; rfl
  have hneg : ¬ ((k : Int) < 0) := by omega
  have h48i : ¬ (281474976710656 < (k : Int) * 24) := by omega
  have hzc : (Value.slice none 0 0).cells = #[.slice none 0 0] := rfl
  have hneutral : ∀ e : Event, (∃ m, e = ⟨.mark m, false, true⟩ ∧ Neutral m) → e = ⟨.mark .noRoom, false, true⟩ := by
    rintro e ⟨m, rfl, hm⟩
    unfold Neutral at hm
    rw [hm]
  have grown : ∀ (old : Nat), old < n + k → ∀ (row : Option Nat),
      (w.drew.alloc (.cells (xs.toArray ++ Builtin.zeroCells #[.slice none 0 0] k ++ Builtin.zeroCells #[.slice none 0 0] (grownCap w (n + k) old 29 - (n + k))) 29)).ownsRow base 29 1
        (.slice (some ⟨w.heap.size, 0, none⟩) (n + k) (grownCap w (n + k) old 29)) (n + k) (xs ++ List.replicate k nilS) ∧
      w.grownBy (w.drew.alloc (.cells (xs.toArray ++ Builtin.zeroCells #[.slice none 0 0] k ++ Builtin.zeroCells #[.slice none 0 0] (grownCap w (n + k) old 29 - (n + k))) 29)) row := by
    intro old ho row
    have hge := grownCap_ge w (n + k) old 29
    have hcm : grownCap w (n + k) old 29 ≤ maxLen := grownCap_le_maxLen w (n + k) old _ hmx
    have hxl := hown.1
    refine ⟨⟨by rw [List.length_append, List.length_replicate, hxl]; omega, .inr ⟨w.heap.size, _, _, rfl, hb, heap_alloc_new w.drew _, hge, hcm, ?_, ?_⟩⟩, ⟨rfl, rfl, rfl, by simp, fun j hj _ => heap_alloc_old w.drew _ hj⟩⟩
    · simp only [Array.size_append, List.size_toArray, size_zeroCells, hxl]
      simp
      omega
    · simp only [Array.toList_append, List.append_assoc, zero_list]
      rw [← List.append_assoc, show (n + k) * 1 = (xs ++ List.replicate k nilS).length from by rw [List.length_append, List.length_replicate, hxl]; omega]
      exact List.take_left
  by_cases hk : k = 0
  · subst hk
    rcases id hown.2 with ⟨rfl, rfl⟩ | ⟨g, cap, cur, rfl, hbg, hg, hnc, hcm, hcs, htake⟩
    · refine ⟨.slice none 0 0, w, ?_, by simpa using hown, ⟨rfl, rfl, rfl, Nat.le_refl _, fun _ _ _ => rfl⟩, fun e he => ?_⟩
      · simp [Builtin.append_, run_underlying ht, run_underlying htn, sizeOf, typeInfo, zeroValue, hi, hz, asInt, asIntOf, h0w, hby]
      · simp [Builtin.append_, run_underlying ht, run_underlying htn, sizeOf, typeInfo, zeroValue, hi, hz, asInt, asIntOf, h0w, hby] at he
    · refine ⟨.slice (some ⟨g, 0, none⟩) n cap, w, ?_, by simpa using hown, ⟨rfl, rfl, rfl, Nat.le_refl _, fun _ _ _ => rfl⟩, fun e he => ?_⟩
      · simp [Builtin.append_, run_underlying ht, run_underlying htn, sizeOf, typeInfo, zeroValue, hi, hz, asInt, asIntOf, h0w, hby, hnc, storeCells]
      · simp [Builtin.append_, run_underlying ht, run_underlying htn, sizeOf, typeInfo, zeroValue, hi, hz, asInt, asIntOf, h0w, hby, hnc, storeCells] at he
  · rcases id hown.2 with ⟨rfl, rfl⟩ | ⟨g, cap, cur, rfl, hbg, hg, hnc, hcm, hcs, htake⟩
    · have hx : xs = [] := List.eq_nil_of_length_eq_zero (by simpa using hown.1)
      subst hx
      have hr := _root_.Go.Lib.run_append_grow_zeros (P := Try.prog) w 22 3 ty 29 i (.slice none 0 0) .i64 .i64 ht htn hi hz none 0 0 [] (by simp [Builtin.firstCells]) k (by omega) (by omega) (by omega) (by omega) (by rw [hby]; omega) (by rw [hby, nextslicecap_zero (by omega)]; omega)
      have hgr := grown 0 (by omega) (Value.ownBlock (.slice none 0 0))
      simp only [Nat.zero_add] at hr hgr ⊢
      rw [hzc] at hr
      refine ⟨_, _, hr, hgr.1, hgr.2, fun e he => ?_⟩
      have hns : ¬ (k * i.size = 0) := by rw [hs]; omega
      have h63' : ¬ (9223372036854775807 < (k : Int)) := by omega
      have h48' : ¬ (281474976710656 < Builtin.nextslicecap k 0 * 24) := by rw [nextslicecap_zero (by omega)]; omega
      simp [Builtin.append_, run_underlying ht, run_underlying htn, sizeOf, typeInfo, zeroValue, hi, hz, asInt, asIntOf, hw, hby, hs, hneg, h48i, hk, hzc, zero_list, h63', h48', Question.forced, newRow, Builtin.firstCells] at he
      rcases events_askRoom _ _ _ e he with h | h
      · simp at h
      · exact .inr (hneutral e h)
    · by_cases hroom : n + k ≤ cap
      · have hfit : n * 1 + (List.replicate k nilS).length ≤ cur.size := by rw [hcs, List.length_replicate]; omega
        have h1 : ∀ u ∈ List.replicate k nilS, u.oneCell' = true := fun u hu => by rw [(List.mem_replicate.1 hu).2]; rfl
        have hst := run_storeCells_at Try.prog g (n * 1) 29 (List.replicate k nilS) 0 cur w hg (by simpa using hfit) h1
        have hse := events_storeCells_at (P := Try.prog) g (n * 1) 29 (List.replicate k nilS) 0 cur w #[] hg (by simpa using hfit) h1
        simp only [Nat.add_zero, Nat.mul_one] at hst hse
        have hns : ¬ (k * i.size = 0) := by rw [hs]; omega
        have hrun : (Builtin.append_ #[22, 3] ty #[.slice (some ⟨g, 0, none⟩) n cap, .int .i64 (k : Int)]).run Try.prog w = .ok (.slice (some ⟨g, 0, none⟩) (n + k) cap) (w.setRow g (cur.toList.take n ++ List.replicate k nilS ++ cur.toList.drop (n + (List.replicate k nilS).length)).toArray) := by
          simp [Builtin.append_, run_underlying ht, run_underlying htn, sizeOf, typeInfo, zeroValue, hi, hz, asInt, asIntOf, hw, hby, hs, hneg, h48i, hk, hroom, hzc, zero_list, Addr.add_lit]
          rw [hst]
          simp
        refine ⟨_, _, hrun, ⟨by rw [List.length_append, List.length_replicate, hown.1]; omega, .inr ⟨g, cap, _, rfl, hbg, setRow_heap w g cur _ _ _ hg, hroom, hcm, ?_, ?_⟩⟩, ⟨rfl, rfl, rfl, by simp, fun j _ hj => setRow_other w g j _ (fun e => hj (by simp [Value.ownBlock, e]))⟩, fun e he => ?_⟩
        · simp only [List.size_toArray, List.length_append, List.length_take, List.length_drop, Array.length_toList, List.length_replicate]
          omega
        · have htk : cur.toList.take n = xs := by simpa using htake
          rw [htk, show (n + k) * 1 = (xs ++ List.replicate k nilS).length from by rw [List.length_append, List.length_replicate, hown.1]; omega]
          exact List.take_left
        · simp [Builtin.append_, run_underlying ht, run_underlying htn, sizeOf, typeInfo, zeroValue, hi, hz, asInt, asIntOf, hw, hby, hs, hneg, h48i, hk, hroom, hzc, zero_list, Addr.add_lit, hst] at he
          rcases hse e he with h | ⟨ad, h1, h2⟩
          · simp at h
          · obtain ⟨loc, wr, sy⟩ := e
            simp only at h1
            subst h1
            exact .inl ⟨ad, wr, sy, rfl, by simp [Value.ownBlock, h2]⟩
      · have holds : ∀ j u, xs[j]? = some u → w.drew.cell? ((⟨g, 0, none⟩ : Addr).add j) = some u := hown.cells (g := g) rfl
        have hfc := run_firstCells_some (P := Try.prog) w.drew i.size n ⟨g, 0, none⟩ n cap xs (by rw [hs]; exact hown.1) holds
        have hr := _root_.Go.Lib.run_append_grow_zeros (P := Try.prog) w 22 3 ty 29 i (.slice none 0 0) .i64 .i64 ht htn hi hz (some ⟨g, 0, none⟩) n cap xs hfc k (by omega) (by omega) (by omega) (by omega) (by rw [hby]; omega) (by rw [hby]; have := growslice_fits (need := n + k) (old := cap) (bytes := 24) (by omega) (by omega); omega)
        have hgr := grown cap (by omega) (Value.ownBlock (.slice (some ⟨g, 0, none⟩) n cap))
        rw [hzc] at hr
        refine ⟨_, _, hr, hgr.1, hgr.2, fun e he => ?_⟩
        have hns : ¬ (k * i.size = 0) := by rw [hs]; omega
        have h63' : ¬ (9223372036854775807 < ((n : Int) + (k : Int))) := by omega
        have h48' : ¬ (281474976710656 < Builtin.nextslicecap (n + k) cap * 24) := by have := growslice_fits (need := n + k) (old := cap) (bytes := 24) (by omega) (by omega); omega
        rw [hs] at hfc
        simp [Builtin.append_, run_underlying ht, run_underlying htn, sizeOf, typeInfo, zeroValue, hi, hz, asInt, asIntOf, hw, hby, hs, hneg, h48i, hk, hroom, hzc, zero_list, h63', h48', Question.forced, newRow, hfc] at he
        have hsrc : ∀ a' l' c', Value.slice (some ⟨g, 0, none⟩) n cap = .slice (some a') l' c' → a'.block = g ∧ ∀ j, j < n * 1 → (w.drew.cell? (a'.add j)).isSome := by
          intro a' l' c' e
          cases e
          exact ⟨rfl, fun j hj => isSome_of_list holds (by rw [hown.1]; exact hj)⟩
        rcases events_firstCells_in (fun b => b = g) _ _ _ _ _ hsrc e he with h | h
        · rcases events_askRoom _ _ _ e h with h2 | h2
          · simp at h2
          · exact .inr (hneutral e h2)
        · obtain ⟨ad, h1, h2, h3⟩ := h
          obtain ⟨loc, wr, sy⟩ := e
          simp only at h1 h2
          subst h1 h2
          exact .inl ⟨ad, _, sy, rfl, by simp [Value.ownBlock, h3]⟩
end Go.Proofs.Ytiobhgemjbjipaa
