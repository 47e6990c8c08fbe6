/- What the methods of net.Net compute. Conditions stand as premises. -/
import Derived.Test.YtnbikaiejeclnaaNetU
import Derived.Test.YtnbikaiejeclnaaClone
import Derived.Deep.RegionHeld3
namespace Go.Proofs.Ytnbikaiejeclnaa
open Go.ChangeShapes Go.WideShapes Go.ChangeAt Go.RowKit
set_option linter.unusedVariables false

theorem is_yes (k : Int) (h : k = 0 ∨ k = 1) (w : World) : Calls Try.prog 26 #[.int .i64 k] w fun e w' => e = .returned (.bool true) ∧ w = w' := by
  rcases h with rfl | rfl
  all_goals
    go_enter Try.func26, Try.ntmps26
    go_wp2
    go_ret
    exact ⟨rfl, rfl⟩
theorem is_no (k : Int) (h0 : k ≠ 0) (h1 : k ≠ 1) (w : World) : Calls Try.prog 26 #[.int .i64 k] w fun e w' => e = .returned (.bool false) ∧ w = w' := by
  have e0 : (k == 0) = false := by simpa using h0
  have e1 : (k == 1) = false := by simpa using h1
  go_enter Try.func26, Try.ntmps26
  go_wp2
  go_ret
  exact ⟨rfl, rfl⟩

def emptyRow : RowV := ⟨none, 0, 0, [], []⟩
theorem emptyRow_I (w : World) (base : Nat) : RowI w base emptyRow := ⟨Own.nil _ _ _ _, rfl, fun i v l hv => by simp [emptyRow] at hv⟩
theorem NetAt.new {w : World} {base p : Nat} {T : TypeId} (hb : base ≤ p) (h : w.heap[p]? = some (.cells #[.slice none 0 0, .slice none 0 0] T)) : NetS w base p ([], []) (· = p) := by
  refine ⟨emptyRow, emptyRow, ⟨hb, lt_of_heap h, by omega, cell_of_heap h 0 _ rfl, cell_of_heap h 1 _ rfl, free_of_heap h _, free_of_heap h _, emptyRow_I _ _, emptyRow_I _ _, by simp [emptyRow, RowV.fp, blk]⟩, rfl, rfl, fun j => by simp [fpN, emptyRow, RowV.fp, blk]⟩

theorem netnew (w : World) : Calls Try.prog 15 #[] w fun e w' => e = .returned (.pointer (some ⟨w.heap.size, 0, none⟩)) ∧ w.alloc (.cells #[.slice none 0 0, .slice none 0 0] 52) = w' := by
  go_enter Try.func15, Try.ntmps15
  go_wp2
  go_ret
  exact ⟨rfl, rfl⟩

theorem netlen_no (p k : Int) (v : Value) (h0 : k ≠ 0) (h1 : k ≠ 1) (w : World) :
    Calls Try.prog 14 #[v, .int .i64 k] w fun e w' => e = .returned (.int .i64 0) ∧ w = w' := by
  go_enter Try.func14, Try.ntmps14
  go_wp2_with (go_at_call 26; refine (is_no _ h0 h1 _).mono ?_; rintro e w' ⟨rfl, rfl⟩)
  go_ret
  exact ⟨rfl, rfl⟩

theorem netlen_yes (p k : Nat) (kI : Int) (base : Nat) (X Y : RowV) (w : World) (h : NetAt w base p k X Y) (hkI : kI = k) :
    Calls Try.prog 14 #[.pointer (some ⟨p, 0, none⟩), .int .i64 kI] w fun e w' => e = .returned (.int .i64 X.n) ∧ w = w' := by
  have hk := h.way
  have hc := h.c0
  rcases (by omega : k = 0 ∨ k = 1) with rfl | rfl
  · obtain rfl : kI = 0 := hkI
    go_enter Try.func14, Try.ntmps14
    go_wp2_with (go_at_call 26; refine (is_yes _ (.inl rfl) _).mono ?_; rintro e w' ⟨rfl, rfl⟩)
    go_ret
    exact ⟨rfl, rfl⟩
  · obtain rfl : kI = 1 := hkI
    go_enter Try.func14, Try.ntmps14
    go_wp2_with (go_at_call 26; refine (is_yes _ (.inr rfl) _).mono ?_; rintro e w' ⟨rfl, rfl⟩)
    go_ret
    exact ⟨rfl, rfl⟩

theorem netget_no (k i : Int) (v : Value) (h0 : k ≠ 0) (h1 : k ≠ 1) (w : World) :
    Calls Try.prog 24 #[v, .int .i64 k, .int .i64 i] w fun e w' => e = .returned (.tuple #[.slice none 0 0, .int .i64 1]) ∧ w = w' := by
  go_enter Try.func24, Try.ntmps24
  go_wp2_with (go_at_call 26; refine (is_no _ h0 h1 _).mono ?_; rintro e w' ⟨rfl, rfl⟩)
  go_ret2
  exact ⟨rfl, rfl⟩

theorem netget_none (p k : Nat) (kI i : Int) (base : Nat) (X Y : RowV) (w : World) (h : NetAt w base p k X Y) (hkI : kI = k) (hi : i < 0 ∨ (X.n : Int) ≤ i) :
    Calls Try.prog 24 #[.pointer (some ⟨p, 0, none⟩), .int .i64 kI, .int .i64 i] w fun e w' => e = .returned (.tuple #[.slice none 0 0, .int .i64 16]) ∧ w = w' := by
  have hk := h.way
  have hc := h.c0
  rcases (by omega : k = 0 ∨ k = 1) with rfl | rfl
  · obtain rfl : kI = 0 := hkI
    by_cases hneg : i < 0
    · clear hi
      go_enter Try.func24, Try.ntmps24
      go_wp2_with (go_at_call 26; refine (is_yes _ (.inl rfl) _).mono ?_; rintro e w' ⟨rfl, rfl⟩)
      go_ret2
      exact ⟨rfl, rfl⟩
    · have h2 : (X.n : Int) ≤ i := by omega
      clear hi
      go_enter Try.func24, Try.ntmps24
      go_wp2_with (go_at_call 26; refine (is_yes _ (.inl rfl) _).mono ?_; rintro e w' ⟨rfl, rfl⟩)
      go_ret2
      exact ⟨rfl, rfl⟩
  · obtain rfl : kI = 1 := hkI
    by_cases hneg : i < 0
    · clear hi
      go_enter Try.func24, Try.ntmps24
      go_wp2_with (go_at_call 26; refine (is_yes _ (.inr rfl) _).mono ?_; rintro e w' ⟨rfl, rfl⟩)
      go_ret2
      exact ⟨rfl, rfl⟩
    · have h2 : (X.n : Int) ≤ i := by omega
      clear hi
      go_enter Try.func24, Try.ntmps24
      go_wp2_with (go_at_call 26; refine (is_yes _ (.inr rfl) _).mono ?_; rintro e w' ⟨rfl, rfl⟩)
      go_ret2
      exact ⟨rfl, rfl⟩

theorem netget_yes (p k i : Nat) (kI iI : Int) (base : Nat) (X Y : RowV) (w : World) (h : NetAt w base p k X Y) (hkI : kI = k) (hiI : iI = i) (hi : i < X.n) (v : Option Addr × Nat × Nat) (hv : X.vs[i]? = some v) :
    Calls Try.prog 24 #[.pointer (some ⟨p, 0, none⟩), .int .i64 kI, .int .i64 iI] w fun e w' => e = .returned (.tuple #[encS v, .int .i64 0]) ∧ w = w' := by
  have hk := h.way
  have hc := h.c0
  obtain ⟨g, ha, hg1, hg2⟩ := h.x.own.at (by omega)
  have hown := h.x.own
  rw [ha] at hown
  have hcell := hown.cell i v hv
  have hrd := hown.rd
  have h63 := hrd.2.2.1
  have hcap := hrd.2.1
  unfold maxLen at h63
  rw [ha] at hc
  obtain ⟨va, vn, vc⟩ := v
  simp only [encS] at hcell ⊢
  subst hiI
  clear hrd hown hv ha
  rcases (by omega : k = 0 ∨ k = 1) with rfl | rfl
  · obtain rfl : kI = 0 := hkI
    go_enter Try.func24, Try.ntmps24
    go_wp2_with (go_at_call 26; refine (is_yes _ (.inl rfl) _).mono ?_; rintro e w' ⟨rfl, rfl⟩)
    go_ret2
    exact ⟨rfl, rfl⟩
  · obtain rfl : kI = 1 := hkI
    go_enter Try.func24, Try.ntmps24
    go_wp2_with (go_at_call 26; refine (is_yes _ (.inr rfl) _).mono ?_; rintro e w' ⟨rfl, rfl⟩)
    go_ret2
    exact ⟨rfl, rfl⟩
end Go.Proofs.Ytnbikaiejeclnaa
