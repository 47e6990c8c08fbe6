/- append onto an empty piece of another row: what it yields and what it lists. No program in sight; conditions stand as premises. -/
import Derived.Test.YtiobhgemjbjipaaPmUpd
import Derived.Test.YtiobhgemjbjipaaPmPumpSpec
import Derived.Conc.AppendEvents3
import Derived.Conc.AppendWalk
import Derived.ArgAppend
namespace Go.Proofs.Ytiobhgemjbjipaa
open Go.ChangeShapes Go.WideShapes Go.ChangeAt Go.RowKit Go.Conc
set_option linter.unusedVariables false
set_option linter.unusedSimpArgs false
section
variable {α : Type} {P : Program} {w : World}
/-- An entry of an append: a read of block b, or a mark that says nothing. -/
def EvRead (B : Nat → Prop) (e : Event) : Prop := (∃ a sy, e = ⟨.cell a, false, sy⟩ ∧ B a.block) ∨ e = ⟨.mark .noRoom, false, true⟩
theorem evRead_of {B : Nat → Prop} {e : Event} (h : e.readsIn B) : EvRead B e := by
  obtain ⟨ad, h1, h2, h3⟩ := h
  obtain ⟨loc, wr, sy⟩ := e
  simp only at h1 h2
  subst h1 h2
  exact .inl ⟨ad, sy, rfl, h3⟩
/-- n elements of block b are appended to an empty piece of whatever row: a new row. -/
theorem append_empty {enc : α → Value} {t ty e : TypeId} {bytes : Nat} (hI : OneInfo P t e bytes) (b0 : Addr) {b off n c : Nat} {l : List α} (hl : l.length = n) (hn : 0 < n) (hc : Cells enc w b off l)
    (hfit : n * bytes ≤ 140737488355328) (hfit2 : n ≤ 140737488355328) :
    ∃ cap w', (Builtin.append_ #[t, t] ty #[.slice (some b0) 0 0, .slice (some ⟨b, off, none⟩) n c]).run P w = .ok (.slice (some ⟨w.heap.size, 0, none⟩) n cap) w' ∧ n ≤ cap ∧ cap ≤ maxLen ∧ Cells enc w' w.heap.size 0 l ∧ (∃ cur, w'.heap[w.heap.size]? = some (.cells cur e)) ∧
      Below w.heap.size w w' ∧ w'.heap.size = w.heap.size + 1 ∧ ∀ ev ∈ (Builtin.append_ #[t, t] ty #[.slice (some b0) 0 0, .slice (some ⟨b, off, none⟩) n c]).events P w #[], EvRead (fun k => k = b) ev := by
  obtain ⟨ht, i, z, hi, hz, hsize, hby, hzs⟩ := hI
  subst hby
  have hnews : ∀ j v, (l.map enc)[j]? = some v → w.cell? ((⟨b, off, none⟩ : Addr).add j) = some v := by
    intro j v hj
    rw [List.getElem?_map] at hj
    obtain ⟨y, hy, rfl⟩ := Option.map_eq_some_iff.1 hj
    rw [addr_add]; exact hc j y hy
  have hlen : (l.map enc).length = n * i.size := by simp [hl, hsize]
  have hr := run_append_grow (P := P) w t ty e i z ht hi hz b0 0 0 [] (by simp) (by intro j v hj; simp at hj) ⟨b, off, none⟩ n c (l.map enc) hlen hnews (by omega) (by omega) (growslice_fits (by omega) (by rw [Nat.zero_add]; omega))
  simp only [Nat.zero_add] at hr
  have hge := grownCap_ge w n 0 e
  have hcm : grownCap w n 0 e ≤ maxLen := grownCap_le_maxLen w n 0 e (by unfold maxLen; omega)
  generalize hcp : grownCap w n 0 e = cap at hr hge hcm
  have hnew : (w.drew.alloc (.cells (([] : List Value).toArray ++ (l.map enc).toArray ++ Builtin.zeroCells z.cells (cap - n)) e)).heap[w.heap.size]? = some (.cells (([] : List Value).toArray ++ (l.map enc).toArray ++ Builtin.zeroCells z.cells (cap - n)) e) := heap_alloc_new w.drew _
  refine ⟨cap, _, hr, hge, hcm, fun j y hj => ?_, ⟨_, hnew⟩, ⟨rfl, rfl, rfl, by simp, fun k hk => heap_alloc_old w.drew _ hk⟩, by simp, fun ev hev => ?_⟩
  · have hjl : j < l.length := (List.getElem?_eq_some_iff.1 hj).1
    have e1 : ((l.map enc).toArray ++ Builtin.zeroCells z.cells (cap - n))[j]? = some (enc y) := by
      rw [Array.getElem?_append_left (by simpa using hjl)]
      simp [hj]
    simp only [World.cell?, Nat.zero_add, hnew]
    simpa using e1
  · have h63' : ¬ (9223372036854775807 < (n : Int)) := by omega
    have h48' : ¬ (281474976710656 < Builtin.nextslicecap n 0 * i.bytes) := by rw [nextslicecap_zero (by omega)]; omega
    have hf := run_firstCells_some (P := P) w.drew i.size n ⟨b, off, none⟩ n c (l.map enc) hlen (by simpa using hnews)
    have hn0 : ¬ n = 0 := by omega
    have src : ∀ (w' : World), (∀ ad, w'.cell? ad = w.cell? ad) → ∀ a' l' c', Value.slice (some ⟨b, off, none⟩) n c = .slice (some a') l' c' → a'.block = b ∧ ∀ j, j < n * i.size → (w'.cell? (a'.add j)).isSome := by
      intro w' hw' a' l' c' e
      cases e
      exact ⟨rfl, fun j hj => by rw [hw']; exact isSome_of_list hnews (by rw [hlen]; exact hj)⟩
    have nil : ∀ (w' : World) a' l' c', Value.slice (some b0) 0 0 = .slice (some a') l' c' → True ∧ ∀ j, j < 0 * i.size → (w'.cell? (a'.add j)).isSome := by
      intro w' a' l' c' _
      exact ⟨trivial, fun j hj => by omega⟩
    have hfo := run_firstCells_some (P := P) w.drew i.size 0 b0 0 0 [] (by simp) (by intro j v hj; simp at hj)
    have efo : ∀ es, (Builtin.firstCells i.size 0 (.slice (some b0) 0 0)).events P w.drew es = es := by
      intro es
      simp [Builtin.firstCells, loadCells, loadCellsFrom]
    simp [Builtin.append_, run_underlying ht, sizeOf, typeInfo, zeroValue, hi, hz, Builtin.lenOf, hn0, h63', h48', Question.forced, hf, hfo, newRow, efo] at hev
    rcases events_firstCells_in (fun k => k = b) _ _ _ _ _ (src w.drew fun _ => rfl) ev hev with h | h
    · rcases events_askRoom _ _ _ ev h with h2 | ⟨m, rfl, hm⟩
      · simp at h2
      · unfold Neutral at hm
        subst hm
        exact .inr rfl
    · exact evRead_of h
theorem append_none {t ty e : TypeId} {bytes : Nat} (hI : OneInfo P t e bytes) (b0 : Addr) (a : Option Addr) (c : Nat) :
    (Builtin.append_ #[t, t] ty #[.slice (some b0) 0 0, .slice a 0 c]).run P w = .ok (.slice (some b0) 0 0) w ∧ ∀ ev ∈ (Builtin.append_ #[t, t] ty #[.slice (some b0) 0 0, .slice a 0 c]).events P w #[], False := by
  obtain ⟨ht, i, z, hi, hz, hsize, hby, hzs⟩ := hI
  cases a <;> constructor <;> simp [Builtin.append_, run_underlying ht, sizeOf, typeInfo, hi, Builtin.lenOf, Builtin.firstCells, loadCells, loadCellsFrom, storeCells]
end
end Go.Proofs.Ytiobhgemjbjipaa
