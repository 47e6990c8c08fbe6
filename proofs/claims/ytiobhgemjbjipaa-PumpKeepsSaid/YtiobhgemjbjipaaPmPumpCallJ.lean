/- What Join is handed by ways; what a call of the pump leaves. No program's walk here; no condition. -/
import Derived.Test.YtiobhgemjbjipaaPmPumpGotL
set_option linter.unusedSimpArgs false
set_option linter.unusedVariables false
namespace Go.Proofs.Ytiobhgemjbjipaa
open Go.Conc Go.RowKit
variable {Old Old' : Nat → Prop} {MB : Value → List Int → Prop} {wb w w0 w1 w' : World} {VS : Nat → List Value} {n : Nat} {Cr : Nat → Nat} {out V : Value} {st : Option Nat} {E : PE} {N : Nat} {L : List (List (List Int))}
/-- Few rows of few short messages. -/
def Sm (L : List (List (List Int))) : Prop := L.length ≤ 100 ∧ ∀ row ∈ L, row.length ≤ 1000 ∧ ∀ bs ∈ row, bs.length ≤ 1000
theorem open3 {a : Option Addr} {cp : Nat} (h : R3 Old w (.slice a n cp) L) : ∃ (RS : List Value) (VS : Nat → List Value), n = L.length ∧ RS.length = n ∧ SlOf Old w (.slice a n cp) RS ∧ (∀ (k : Nat) v, RS[k]? = some v → SlOf Old w v (VS k)) ∧ ∀ (k : Nat) row, L[k]? = some row → Al (R1 Old w) (VS k) row := by
  obtain ⟨RS, h1, h2⟩ := h
  have hn := h1.len
  have hc : ∀ k : Nat, ∃ VS : List Value, (∀ v, RS[k]? = some v → SlOf Old w v VS) ∧ ∀ row, L[k]? = some row → Al (R1 Old w) VS row := by
    intro k
    by_cases hk : k < RS.length
    · have hk' : k < L.length := by have := h2.1; omega
      obtain ⟨VS, h3, h4⟩ := h2.2 k _ _ (List.getElem?_eq_getElem hk) (List.getElem?_eq_getElem hk')
      refine ⟨VS, fun v hv => ?_, fun row hr => ?_⟩
      · rw [List.getElem?_eq_getElem hk] at hv
        cases hv
        exact h3
      · rw [List.getElem?_eq_getElem hk'] at hr
        cases hr
        exact h4
    · exact ⟨[], fun v hv => absurd (List.getElem?_eq_some_iff.1 hv).1 hk, fun row hr => by have := (List.getElem?_eq_some_iff.1 hr).1; have := h2.1; omega⟩
  obtain ⟨VS, hVS⟩ := Classical.skolem.1 hc
  exact ⟨RS, VS, by rw [hn, h2.1], hn.symm, h1, fun k v hv => (hVS k).1 v hv, fun k row hr => (hVS k).2 row hr⟩
theorem tot_le (hl : ∀ k, k < n → (VS k).length ≤ 1000) : ∀ m, m ≤ n → tot VS m ≤ 1000 * m
  | 0, _ => Nat.le_refl _
  | m + 1, h => by
    have := tot_le hl m (by omega)
    have := hl m (by omega)
    simp only [tot]
    omega
/-- What Join is handed. -/
theorem jin_of (h : WS Old w VS n Cr out w1) (hst : ∀ c, st = some c → ∃ s r tm, w.heap[c]? = some (.chan 0 #[] false s r tm)) (hold : ∀ b, Old b → b < w.heap.size) (hrows : ∀ k, k < n → ∀ v ∈ VS k, ∃ bs, R1 Old w v bs ∧ bs.length ≤ 140737488355328) :
    ∃ ba cap bi, out = .slice ba n cap ∧ JIn Old (R1 Old w1) st ba n bi 0 Cr VS w1 := by
  have hch : ∀ c, st = some c → c < w.heap.size := fun c hc => by obtain ⟨s, r, tm, x⟩ := hst c hc; exact lt_of_heap x
  have key : ∀ ba bi cap, out = .slice ba n cap → (0 < n → ba = some ⟨bi, 0, none⟩) → (0 < n → w.heap.size ≤ bi) → (∀ k, k < n → w1.cell? ⟨bi, 0 + k, none⟩ = some (.chan (some (Cr k)))) → JIn Old (R1 Old w1) st ba n bi 0 Cr VS w1 := by
    intro ba bi cap _ h1 h2 h3
    refine ⟨fun b hb => Nat.lt_of_lt_of_le (hold b hb) h.e.size, fun c hc => ?_, fun k hk => ?_, h.inj, fun k hk e => ?_, h1, fun h0 x => by have := hold _ x; have := h2 h0; omega, h3, fun k hk v hv => ?_⟩
    · obtain ⟨s, r, tm, x⟩ := hst c hc
      exact ⟨s, r, tm, (h.e.low c (lt_of_heap x)).trans x⟩
    · obtain ⟨_, s, x⟩ := h.ch k hk
      exact ⟨_, _, _, _, x⟩
    · have := hch _ e
      have := (h.ch k hk).1
      omega
    · obtain ⟨bs, r1, r2⟩ := hrows k hk v hv
      have r1' := r1.ext h.e
      exact ⟨bs, r1', r2, r1'.msg fun b off v hc ho => ⟨ho, cell_cells hc⟩⟩
  rcases id h.own.2 with ⟨rfl, h0⟩ | ⟨g, cap, cur, rfl, hg, hh, _⟩
  · subst h0
    exact ⟨none, 0, 0, rfl, key none 0 0 rfl (fun h => by omega) (fun h => by omega) fun k hk => by omega⟩
  · refine ⟨some ⟨g, 0, none⟩, cap, g, rfl, key _ g cap rfl (fun _ => rfl) (fun _ => hg) fun k hk => ?_⟩
    have := World.ownsRow.cells h.own (g := g) rfl k (.chan (some (Cr k))) (by
      unfold chansOf
      rw [List.getElem?_map, List.getElem?_range hk]
      rfl)
    rw [addr_add] at this
    exact this
/-- What a call leaves. -/
theorem ext_exit (hb : Ext Old Old wb w) (h : WS Old w VS n Cr out w1) (hst : ∀ c, st = some c → wb.heap.size ≤ c) (hE : EJ Old MB st n Cr VS w1 w0 E) (hJ : KJ E w0 N w') : Ext Old (fun b => Old b ∨ b = E.Wg) wb w' := by
  have s1 := hb.size
  have s2 := h.e.size
  have s3 := hE.low.1
  have s4 := hE.n0
  have s5 := hJ.n0
  have s6 := hJ.n1
  have s7 := hE.wg
  refine ⟨by omega, fun b hl => ?_, fun b x => x.imp id fun e => by omega, hb.oo.trans (h.e.oo.trans (hE.oo.trans hJ.oo))⟩
  rw [hJ.low b (by omega) fun x => ?_, hE.low.2 b (by omega), h.e.low b (by omega), hb.low b hl]
  rcases hE.sh b x with x | x | ⟨k, hk, rfl⟩
  · omega
  · have := hst _ x
    omega
  · have := (h.ch k hk).1
    omega
theorem old_exit (hold : ∀ b, Old b → b < w.heap.size) (h : WS Old w VS n Cr out w1) (hE : EJ Old MB st n Cr VS w1 w0 E) : ∀ b, (Old b ∨ b = E.Wg) → b < E.N0 := by
  intro b x
  rcases x with x | rfl
  · have := hold b x
    have := h.e.size
    have := hE.low.1
    have := hE.n0
    omega
  · exact hE.ok.low _ (.inl rfl)
end Go.Proofs.Ytiobhgemjbjipaa
