/- What the document's own Get computes. Conditions stand as premises. -/
import Derived.Test.YtpkmdnfkeebgbaaLeGet
namespace Go.Proofs.Ytpkmdnfkeebgbaa
open Go.ChangeShapes Go.WideShapes Go.ChangeAt Go.RowKit
set_option linter.unusedVariables false

/-! ### Get -/
theorem refget_nat (b off : Nat) (len cap : Nat) (l : List Int) (p n : Nat) (w : World) (hl : l.length = len) (hc : len ≤ 140737488351232) (hb : IsB l) (hcell : ∀ i, i < l.length → w.cell? ⟨b, off + i, none⟩ = some (.int .u8 (l[i]?.getD 0)))
    (hs : okSize n = true) (hp : p + n ≤ len) :
    Calls Try.prog 35 #[.slice (some ⟨b, off, none⟩) len cap, .int .i64 p, .int .i64 n] w fun e w' => e = .returned (.tuple #[.int .u64 (leN ((l.drop p).take n)), .bool true]) ∧ w = w' := by
  have hn0 := okSize_cases hs
  have hn : n ≤ 8 ∧ 1 ≤ n := by omega
  have Hl := Lib.hid hl
  clear hl
  rcases hn0 with h | h | h | h
  all_goals
    first | have t1 : ((n : Int) != 1) = true := by rw [bne_iff_ne]; omega | have t1 : ((n : Int) != 1) = false := by simp [h]
    first | have t2 : ((n : Int) != 2) = true := by rw [bne_iff_ne]; omega | have t2 : ((n : Int) != 2) = false := by simp [h]
    first | have t3 : ((n : Int) != 4) = true := by rw [bne_iff_ne]; omega | have t3 : ((n : Int) != 4) = false := by simp [h]
    first | have t4 : ((n : Int) != 8) = true := by rw [bne_iff_ne]; omega | have t4 : ((n : Int) != 8) = false := by simp [h]
    clear h
    go_enter Try.func35, Try.ntmps35
    go_wp2_with fail
    go_loop [8, 9] (fun v i => ∃ k : Nat, k ≤ n ∧ i = .int .i64 ((n : Int) - 1 - k) ∧ v = .int .u64 (leN ((l.drop (p + (n - k))).take k))) (fun _ i => (intOf i + 1).toNat)
    case atStart => exact ⟨0, Nat.zero_le _, by simp, by simp [leN]⟩
    case round =>
      obtain ⟨k, hk, rfl, rfl⟩ := hrel
      by_cases hlt : k < n
      · have hcj := hcell (p + (n - 1 - k)) (by have := Hl.out; omega)
        have hbj := hb.getD (p + (n - 1 - k))
        have hx := leN_le ((l.drop (p + (n - 1 - k) + 1)).take k) ((hb.drop _).take _) 7 (by simp; omega)
        have hx2 : leN ((l.drop (p + (n - 1 - k) + 1)).take k) ≤ 72057594037927935 := by have := hx.2; simp at this; omega
        have hx1 := hx.1
        have He := Lib.hid (take_succ_drop l (p + (n - 1 - k)) k (by have := Hl.out; omega))
        rw [show p + (n - k) = p + (n - 1 - k) + 1 by omega]
        generalize hgx : leN ((l.drop (p + (n - 1 - k) + 1)).take k) = x at hx1 hx2 ⊢
        have Hx := Lib.hid hgx
        clear hx hcell hgx
        go_wp2
        go_round
        case rel => exact ⟨k + 1, by omega, by rw [show (n : Int) - 1 - k - 1 = n - 1 - (k + 1 : Nat) by omega], by rw [show p + (n - (k + 1)) = p + (n - 1 - k) by omega, He.out, leN, Hx.out, Int.mul_comm, Int.add_comm]⟩
        case measure => simp [intOf]; omega
      · have : k = n := by omega
        subst this
        clear hcell
        go_wp2
        go_ret2
        exact ⟨by simp, rfl⟩

theorem refget_no (a : Option Addr) (len cap : Nat) (p n : Int) (w : World) (hlen : len ≤ 140737488351232) (hp63 : p ≤ 9223372036854775807) (h : okSize n = false ∨ p < 0 ∨ (len : Int) - n < p) :
    Calls Try.prog 35 #[.slice a len cap, .int .i64 p, .int .i64 n] w fun e w' => e = .returned (.tuple #[.int .u64 0, .bool false]) ∧ w = w' := by
  cases hs : okSize n
  · obtain ⟨t1, t2, t3, t4⟩ := okSize_no hs
    clear h hs
    go_enter Try.func35, Try.ntmps35
    go_wp2
    go_ret2
    exact ⟨rfl, rfl⟩
  · have hb : 1 ≤ n ∧ n ≤ 8 := by rcases okSize_cases hs with h | h | h | h <;> omega
    have h' : p < 0 ∨ (len : Int) - n < p := by simpa [hs] using h
    have hn0 := okSize_cases hs
    clear h hs
    rcases hn0 with h | h | h | h
    all_goals
      first | have t1 : ((n : Int) != 1) = true := by rw [bne_iff_ne]; omega | have t1 : ((n : Int) != 1) = false := by simp [h]
      first | have t2 : ((n : Int) != 2) = true := by rw [bne_iff_ne]; omega | have t2 : ((n : Int) != 2) = false := by simp [h]
      first | have t3 : ((n : Int) != 4) = true := by rw [bne_iff_ne]; omega | have t3 : ((n : Int) != 4) = false := by simp [h]
      first | have t4 : ((n : Int) != 8) = true := by rw [bne_iff_ne]; omega | have t4 : ((n : Int) != 8) = false := by simp [h]
      clear h
      by_cases hp : p < 0
      · clear h'
        go_enter Try.func35, Try.ntmps35
        go_wp2
        go_ret2
        exact ⟨rfl, rfl⟩
      · have h2 : (len : Int) - n < p := by omega
        clear h'
        by_cases hp2 : (len : Int) < p
        · go_enter Try.func35, Try.ntmps35
          go_wp2
          go_ret2
          exact ⟨rfl, rfl⟩
        · have h3 : (len : Int) - p < n := by omega
          go_enter Try.func35, Try.ntmps35
          go_wp2
          go_ret2
          exact ⟨rfl, rfl⟩

theorem refget_any (a : Option Addr) (len cap : Nat) (l : List Int) (p n : Int) (w : World) (hr : RdB w a len cap l) (hlen : len ≤ 140737488351232) (hp63 : p ≤ 9223372036854775807) :
    Calls Try.prog 35 #[.slice a len cap, .int .i64 p, .int .i64 n] w fun e w' => e = .returned (.tuple #[.int .u64 (getA l p n), .bool (getB l p n)]) ∧ w = w' := by
  by_cases hg : getB l p n = true
  · have h := hg
    simp only [getB, Bool.and_eq_true, decide_eq_true_eq] at h
    obtain ⟨⟨hs, h0⟩, h1⟩ := h
    rw [getA, if_pos hg, hg]
    obtain ⟨P, rfl⟩ := Int.eq_ofNat_of_zero_le h0
    have hn : n = 1 ∨ n = 2 ∨ n = 4 ∨ n = 8 := okSize_cases hs
    obtain ⟨N, rfl⟩ := Int.eq_ofNat_of_zero_le (show 0 ≤ n by omega)
    have hl := hr.len
    obtain ⟨b, off, rfl, _, hc⟩ := hr.2.at (by omega)
    simp only [Int.toNat_natCast]
    exact refget_nat b off len cap l P N w hl hlen hr.1 (fun i hi => cellInt hc i hi) hs (by omega)
  · rw [getA, if_neg hg, show getB l p n = false by simpa using hg]
    refine refget_no a len cap p n w hlen hp63 ?_
    have hl := hr.len
    simp only [getB, Bool.and_eq_true, decide_eq_true_eq] at hg
    by_cases hs : okSize n = true
    · right
      by_cases h0 : p < 0
      · exact .inl h0
      · right
        have : ¬ (p + n ≤ l.length) := fun hh => hg ⟨⟨hs, by omega⟩, hh⟩
        omega
    · left; simpa using hs

end Go.Proofs.Ytpkmdnfkeebgbaa
