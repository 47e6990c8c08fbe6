/- What the laws on net.Net share: a way with messages, the light test, the first example. Conditions stand as premises. -/
import Derived.Test.YtnbikaiejeclnaaNetS
import Derived.Test.YtnbikaiejeclnaaNum
import Derived.Test.YtnbikaiejeclnaaSame
namespace Go.Proofs.Ytnbikaiejeclnaa
open Go.ChangeShapes Go.WideShapes Go.ChangeAt Go.RowKit
set_option linter.unusedVariables false

theorem rowS_setS (S : St) (k : Int) (l : List (List Int)) : rowS (setS S k l) k = l := by
  unfold rowS setS rowOf setRow'; split <;> rfl
theorem setS_setS (S : St) (k : Int) (l m : List (List Int)) : setS (setS S k l) k m = setS S k m := by
  unfold setS setRow'; split <;> rfl
theorem setS_nil (k : Int) : setS ([], []) k [] = ([], []) := by unfold setS setRow'; simp
theorem rowS_other (S : St) (k : Int) (hk : isW k = true) (l : List (List Int)) : rowS (setS S k l) (1 - k) = rowS S (1 - k) := by
  rcases isW_yes hk with rfl | rfl <;> rfl
theorem isW_other {k : Int} (hk : isW k = true) : isW (1 - k) = true := by
  rcases isW_yes hk with rfl | rfl <;> rfl

/-- The ways live in a world that has turned nothing of the first one's. -/
structure Live (w0 w : World) (p : Nat) (S : St) (F : Nat → Prop) : Prop where
  net : NetS w w0.heap.size p S F
  bel : Below w0.heap.size w0 w

theorem Live.step {w0 w w' : World} {p : Nat} {S S' : St} {F : Nat → Prop} (h : Live w0 w p S F) (k : NetStep w w0.heap.size p S F S' w') : ∃ F', Live w0 w' p S' F' := by
  obtain ⟨F', k1, k2, k3⟩ := k
  exact ⟨F', k1, h.bel.trans (k2.below h.bel.size (fun j hj => (h.net.mem hj).1))⟩
theorem Live.ahead {w0 w w' : World} {p : Nat} {S : St} {F : Nat → Prop} (h : Live w0 w p S F) (hb : Below w.heap.size w w') : Live w0 w' p S F :=
  ⟨h.net.upd (Upd.ofBelow (F := fun _ => False) hb) (fun _ _ h => h), h.bel.trans (hb.mono h.bel.size)⟩
theorem Live.new (w : World) (T : TypeId) : Live w (w.alloc (.cells #[.slice none 0 0, .slice none 0 0] T)) w.heap.size ([], []) (· = w.heap.size) :=
  ⟨NetAt.new (Nat.le_refl _) (heap_alloc_new w _), (Below.refl _ _).alloc (Nat.le_refl _) _⟩

/-- Few and small messages. -/
def LightP (ls : List (List Int)) : Prop := ls.length ≤ 32 ∧ ∀ l ∈ ls, l.length ≤ 40

theorem RdBB.at {w : World} {a : Option Addr} {n c : Nat} {ls : List (List Int)} (h : RdBB w a n c ls) (i : Nat) (hi : i < ls.length) :
    ∃ (b off : Nat) (v : Option Addr × Nat × Nat), a = some ⟨b, off, none⟩ ∧ w.cell? ⟨b, off + i, none⟩ = some (.slice v.1 v.2.1 v.2.2) ∧ RdB w v.1 v.2.1 v.2.2 (ls[i]?.getD []) := by
  obtain ⟨vs, h1, h2, h3⟩ := h
  obtain ⟨b, off, ha, hc⟩ := cellAt h1 i (by omega)
  refine ⟨b, off, vs[i]'(by omega), ha, hc, ?_⟩
  have := h3 i (vs[i]'(by omega)) (ls[i]) (List.getElem?_eq_getElem (by omega)) (List.getElem?_eq_getElem hi)
  rw [List.getElem?_eq_getElem hi]
  exact this

/-- The same in every later world. -/
theorem RdBB.atB {w : World} {a : Option Addr} {n c : Nat} {ls : List (List Int)} (h : RdBB w a n c ls) (i : Nat) (hi : i < ls.length) :
    ∃ (b off : Nat) (v : Option Addr × Nat × Nat), a = some ⟨b, off, none⟩ ∧ ∀ w', Below w.heap.size w w' → w'.cell? ⟨b, off + i, none⟩ = some (.slice v.1 v.2.1 v.2.2) ∧ RdB w' v.1 v.2.1 v.2.2 (ls[i]?.getD []) := by
  obtain ⟨b, off, v, ha, hc, hr⟩ := h.at i hi
  refine ⟨b, off, v, ha, fun w' hb => ⟨bcell hb (World.block_lt_of_cell? w _ hc) hc, hr.mono hb⟩⟩

theorem RdBB.caps {w : World} {a : Option Addr} {n c : Nat} {ls : List (List Int)} (h : RdBB w a n c ls) : n ≤ c ∧ c ≤ 9223372036854775807 := by
  obtain ⟨vs, h1, h2, h3⟩ := h
  have := h1.2.2.1
  unfold maxLen at this
  exact ⟨h1.2.1, by omega⟩

theorem light_yes (a : Option Addr) (n c : Nat) (ls : List (List Int)) (w : World) (hr : RdBB w a n c ls) (h : LightP ls) :
    Calls Try.prog 10 #[.slice a n c] w fun e w' => e = .returned (.bool true) ∧ w = w' := by
  obtain rfl : ls.length = n := hr.len
  have hcap := hr.caps
  have h1 : (ls.length : Int) ≤ 32 := by have := h.1; omega
  have HL := Lib.hid h
  clear h
  go_enter Try.func10, Try.ntmps10
  go_wp2_with fail
  go_loop [3] (fun i => ∃ k : Nat, k ≤ ls.length ∧ i = .int .i64 k) (fun i => ls.length - (intOf i).toNat)
  case atStart => exact ⟨0, Nat.zero_le _, rfl⟩
  case round =>
    obtain ⟨k, hk, rfl⟩ := hrel
    by_cases hlt : k < ls.length
    · obtain ⟨b, off, v, rfl, hc, hv⟩ := hr.at k hlt
      have hvl : (v.2.1 : Int) ≤ 40 := by
        have h1 := hv.len
        have h2 := HL.out.2 (ls[k]?.getD []) (by rw [List.getElem?_eq_getElem hlt]; exact List.getElem_mem hlt)
        omega
      clear hv
      go_wp2
      go_round
      case rel => exact ⟨k + 1, by omega, by go_num⟩
      case measure => simp [intOf]; omega
    · go_wp2
      go_ret
      exact ⟨rfl, rfl⟩

theorem light_no (a : Option Addr) (n c : Nat) (ls : List (List Int)) (w : World) (hr : RdBB w a n c ls) (h : ¬ LightP ls) :
    Calls Try.prog 10 #[.slice a n c] w fun e w' => e = .returned (.bool false) ∧ w = w' := by
  obtain rfl : ls.length = n := hr.len
  have hcap := hr.caps
  by_cases h1 : (32 : Int) < (ls.length : Int)
  · clear h
    go_enter Try.func10, Try.ntmps10
    go_wp2
    go_ret
    exact ⟨rfl, rfl⟩
  have h1' : (ls.length : Int) ≤ 32 := by omega
  have HL := Lib.hid h
  clear h
  go_enter Try.func10, Try.ntmps10
  go_wp2_with fail
  go_loop [3] (fun i => ∃ k : Nat, k ≤ ls.length ∧ i = .int .i64 k ∧ ∀ j, j < k → (ls[j]?.getD []).length ≤ 40) (fun i => ls.length - (intOf i).toNat)
  case atStart => exact ⟨0, Nat.zero_le _, rfl, fun j hj => by omega⟩
  case round =>
    obtain ⟨k, hk, rfl, hall⟩ := hrel
    have HA := Lib.hid hall
    clear hall
    by_cases hlt : k < ls.length
    · obtain ⟨b, off, v, rfl, hc, hv⟩ := hr.at k hlt
      have hvl := Lib.hid hv.len
      clear hv
      by_cases h40 : (v.2.1 : Int) ≤ 40
      · go_wp2
        go_round
        case rel =>
          refine ⟨k + 1, by omega, by go_num, fun j hj => ?_⟩
          by_cases hjk : j < k
          · exact HA.out j hjk
          · obtain rfl : j = k := by omega
            have := hvl.out
            omega
        case measure => simp [intOf]; omega
      · have h40' : (40 : Int) < (v.2.1 : Int) := by omega
        clear h40
        go_wp2
        go_ret
        exact ⟨rfl, rfl⟩
    · exfalso
      refine HL.out ⟨by omega, fun l hl => ?_⟩
      obtain ⟨j, hj, rfl⟩ := List.getElem_of_mem hl
      have := HA.out j (by omega)
      rw [List.getElem?_eq_getElem hj] at this
      exact this

/-- A way with messages, made. -/
theorem sent_yes (k : Int) (a : Option Addr) (n c : Nat) (ls : List (List Int)) (w : World) (hk : isW k = true) (hr : RdBB w a n c ls) (h : LightP ls) :
    Calls Try.prog 11 #[.int .i64 k, .slice a n c] w fun e w' => ∃ p F, e = .returned (.pointer (some ⟨p, 0, none⟩)) ∧ Live w w' p (setS ([], []) k ls) F := by
  obtain rfl : ls.length = n := hr.len
  have hcap := hr.caps
  have HL := Lib.hid h
  have HK := Lib.hid hk
  clear h hk
  go_enter Try.func11, Try.ntmps11
  go_wp2_with fail
  refine (netnew _).mono ?_
  rintro e w1 ⟨rfl, hw1⟩
  have hL0 := Live.new w 52
  rw [hw1] at hL0
  clear hw1
  generalize hp : w.heap.size = p at hL0
  clear hp
  go_wp2_with fail
  go_loopw [6] (fun i wr => ∃ (j : Nat) (F : Nat → Prop), j ≤ ls.length ∧ i = .int .i64 j ∧ Live w wr p (setS ([], []) k (ls.take j)) F) (fun i _ => ls.length - (intOf i).toNat)
  case atStart => exact ⟨0, (· = p), Nat.zero_le _, rfl, by rw [List.take_zero, setS_nil]; exact hL0⟩
  case round =>
    obtain ⟨j, F, hj, rfl, hL⟩ := hrel
    by_cases hlt : j < ls.length
    · obtain ⟨b, off, v, rfl, hc, hv⟩ := (hr.mono hL.bel).at j hlt
      have hvl := HL.out.2 (ls[j]?.getD []) (by rw [List.getElem?_eq_getElem hlt]; exact List.getElem_mem hlt)
      have hle := hv.len
      have hlen : (ls.take j).length = j := by rw [List.length_take]; omega
      have hC : sendC (setS ([], []) k (ls.take j)) k = 0 := by
        unfold sendC
        rw [if_pos HK.out, rowS_setS, hlen, if_neg (by have := HL.out.1; omega)]
      have hS : sendS (setS ([], []) k (ls.take j)) k (ls[j]?.getD []) = setS ([], []) k (ls.take (j + 1)) := by
        unfold sendS
        rw [if_pos hC, rowS_setS, setS_setS, List.take_succ_eq_append_getElem hlt, List.getElem?_eq_getElem hlt]
        rfl
      have HC := Lib.hid (s_send w.heap.size p _ F k v.1 v.2.1 v.2.2 _ wr hL.net hv (by omega))
      rw [hC, hS] at HC
      clear hC hS hle hlen hv
      go_wp2_with fail
      refine HC.out.mono ?_
      rintro e w2 ⟨rfl, hst⟩
      obtain ⟨F', hL'⟩ := hL.step hst
      clear hst
      go_wp2_with fail
      go_roundw
      case rel => exact ⟨j + 1, F', by omega, by go_num, hL'⟩
      case measure => simp [intOf]; omega
    · obtain rfl : j = ls.length := by omega
      rw [List.take_length] at hL
      go_wp2
      go_ret
      exact ⟨p, F, rfl, hL⟩
end Go.Proofs.Ytnbikaiejeclnaa
