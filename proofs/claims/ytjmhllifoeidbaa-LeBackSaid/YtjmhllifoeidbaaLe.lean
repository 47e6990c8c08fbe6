/- Contracts of package le and of the document's answers for it, each function once: what it computes on lists of bytes. Conditions stand as premises. -/
import Derived.Test.YtjmhllifoeidbaaLib
namespace Go.Proofs.Ytjmhllifoeidbaa
open Go.ChangeShapes Go.WideShapes Go.ChangeAt Go.RowKit
set_option linter.unusedVariables false


/-! ### Align -/
theorem align_no (v : Int) (h0 : 0 ≤ v) (h1 : 18446744073709551608 < v) (w : World) :
    Calls Try.prog 8 #[.int .u64 v] w fun e w' => e = .returned (.tuple #[.int .u64 0, .bool false]) ∧ w = w' := by
  go_enter Try.func8, Try.ntmps8
  go_wp2
  go_ret2
  exact ⟨rfl, rfl⟩

theorem u64_up8 (v : Int) (h0 : 0 ≤ v) (h1 : v ≤ 18446744073709551608) : bits .andNot .u64 (v + 7) 7 = (v + 7) / 8 * 8 := by
  rw [u64_andNot _ _ (by omega) (by omega) (by omega) (by omega)]
  obtain ⟨n, rfl⟩ := Int.eq_ofNat_of_zero_le h0
  have e : ((n : Int) + 7).toNat = n + 7 := by omega
  have e2 : (18446744073709551615 - (7 : Int).toNat) = 18446744073709551608 := by decide
  rw [e, e2, nat_hi64_3]
  omega

theorem align_yes (v : Int) (h0 : 0 ≤ v) (h1 : v ≤ 18446744073709551608) (w : World) :
    Calls Try.prog 8 #[.int .u64 v] w fun e w' => e = .returned (.tuple #[.int .u64 ((v + 7) / 8 * 8), .bool true]) ∧ w = w' := by
  have H := Lib.hid (u64_up8 v h0 h1)
  go_enter Try.func8, Try.ntmps8
  go_wp2
  go_ret2
  rw [H.out]
  exact ⟨rfl, rfl⟩

/-! ### size -/
def okSize (n : Int) : Bool := n == 1 || n == 2 || n == 4 || n == 8
theorem okSize_cases {n : Int} (h : okSize n = true) : n = 1 ∨ n = 2 ∨ n = 4 ∨ n = 8 := by
  simpa [okSize, or_assoc] using h

theorem size_any (n : Int) (w : World) :
    Calls Try.prog 19 #[.int .i64 n] w fun e w' => e = .returned (.bool (okSize n)) ∧ w = w' := by
  go_enter Try.func19, Try.ntmps19
  go_wp2
  all_goals
    go_ret
    exact ⟨by simp [okSize, *], rfl⟩

/-! ### Number -/
theorem number_low (n b : Int) (h : b < 1) (w : World) :
    Calls Try.prog 9 #[.int .i64 n, .int .i64 b] w fun e w' => e = .returned (.int .i64 0) ∧ w = w' := by
  go_enter Try.func9, Try.ntmps9
  go_wp2
  go_ret
  exact ⟨rfl, rfl⟩

theorem tmod_bd (n b : Int) (h : 1 ≤ b) : -b < n.tmod b ∧ n.tmod b < b := by
  have h1 := Int.tmod_lt_of_pos n (show 0 < b by omega)
  have h2 := Int.lt_tmod_of_pos n (show 0 < b by omega)
  omega
theorem tmod_fix (n b : Int) (h : 1 ≤ b) : (n.tmod b + b) % b = n % b := by
  rw [Int.add_emod_right]
  have h3 := Int.mul_tdiv_add_tmod n b
  conv => rhs; rw [← h3]
  rw [Int.mul_add_emod_self_left]

theorem number_yes (n b : Int) (h : 1 ≤ b) (h2 : b ≤ 4000000000000000000) (w : World) :
    Calls Try.prog 9 #[.int .i64 n, .int .i64 b] w fun e w' => e = .returned (.int .i64 (n % b)) ∧ w = w' := by
  have h3 := tmod_bd n b h
  have H := Lib.hid (tmod_fix n b h)
  go_enter Try.func9, Try.ntmps9
  go_wp2
  go_ret
  exact ⟨ret_int H.out, rfl⟩

theorem number_nat (n b : Int) (k : Nat) (hk : n % b = k) (h : 1 ≤ b) (h2 : b ≤ 4000000000000000000) (w : World) :
    Calls Try.prog 9 #[.int .i64 n, .int .i64 b] w fun e w' => e = .returned (.int .i64 k) ∧ w = w' := by
  have := number_yes n b h h2 w
  rwa [hk] at this

/-! ### Zero -/
def zeros (l : List Int) : Bool := l.all (· == 0)

theorem zeros_snoc (l : List Int) (k : Nat) (h : k < l.length) : zeros (l.take (k + 1)) = (zeros (l.take k) && l[k]?.getD 0 == 0) := by
  rw [take_snoc l k h]
  simp [zeros]

theorem zeros_false (l : List Int) (k : Nat) (h : k < l.length) (hne : (l[k]?.getD 0 != 0) = true) : zeros l = false := by
  rw [zeros, List.all_eq_false]
  refine ⟨l[k]?.getD 0, ?_, by simpa using hne⟩
  rw [List.getElem?_eq_getElem h]
  exact List.getElem_mem h

theorem zeros_true (l : List Int) (k : Nat) (h : k < l.length) (hz : zeros (l.take k) = true) (hne : (l[k]?.getD 0 != 0) = false) : zeros (l.take (k + 1)) = true := by
  rw [zeros_snoc l k h, hz]
  simpa using hne

theorem zero_any (a : Option Addr) (len cap : Nat) (l : List Int) (w : World) (hr : RdB w a len cap l) (hlen : len ≤ 140737488351232) :
    Calls Try.prog 10 #[.slice a len cap] w fun e w' => e = .returned (.bool (zeros l)) ∧ w = w' := by
  have Hl := Lib.hid hr.len
  go_enter Try.func10, Try.ntmps10
  go_wp2
  go_loop [7] (fun i => ∃ k : Nat, k ≤ len ∧ i = .int .i64 k ∧ zeros (l.take k) = true) (fun i => len - (intOf i).toNat)
  case atStart => exact ⟨0, Nat.zero_le _, rfl, rfl⟩
  case round =>
    obtain ⟨k, hk, rfl, hz⟩ := hrel
    have Hz := Lib.hid hz
    clear hz
    by_cases hlt : k < len
    · obtain ⟨b, off, rfl, hbk, hcell⟩ := hr.2.at (by omega)
      have hc := cellInt hcell k (by have := Hl.out; omega)
      have Hs := Lib.hid (zeros_true l k (by have := Hl.out; omega) Hz.out)
      have Hf := Lib.hid (zeros_false l k (by have := Hl.out; omega))
      clear hcell hr
      go_wp2
      · go_ret
        exact ⟨ret_bool (Hf.out ‹_›).symm, rfl⟩
      · go_round
        case rel => exact ⟨k + 1, by omega, by go_num, Hs.out ‹_›⟩
        case measure => simp [intOf]; omega
    · have : k = len := by omega
      clear hr
      go_wp2
      go_ret
      exact ⟨ret_bool (by rw [List.take_of_length_le (by have := Hl.out; omega)] at Hz; exact Hz.out.symm), rfl⟩

/-! ### Get -/
theorem get_no (a : Option Addr) (len cap : Nat) (p n : Int) (w : World) (hlen : len ≤ 140737488351232) (h : okSize n = false ∨ p < 0 ∨ (len : Int) - n < p) :
    Calls Try.prog 11 #[.slice a len cap, .int .i64 p, .int .i64 n] w fun e w' => e = .returned (.tuple #[.int .u64 0, .bool false]) ∧ w = w' := by
  cases hs : okSize n
  · go_enter Try.func11, Try.ntmps11
    go_wp2_with (go_at_call 19; refine (size_any _ _).mono ?_; rintro e w' ⟨rfl, rfl⟩)
    go_ret2
    exact ⟨rfl, rfl⟩
  · have hb : 1 ≤ n ∧ n ≤ 8 := by rcases okSize_cases hs with h | h | h | h <;> omega
    have h' : p < 0 ∨ (len : Int) - n < p := by simpa [hs] using h
    clear h
    by_cases hp : p < 0
    · clear h'
      go_enter Try.func11, Try.ntmps11
      go_wp2_with (go_at_call 19; refine (size_any _ _).mono ?_; rintro e w' ⟨rfl, rfl⟩)
      go_ret2
      exact ⟨rfl, rfl⟩
    · have h2 : (len : Int) - n < p := by omega
      clear h'
      go_enter Try.func11, Try.ntmps11
      go_wp2_with (go_at_call 19; refine (size_any _ _).mono ?_; rintro e w' ⟨rfl, rfl⟩)
      go_ret2
      exact ⟨rfl, rfl⟩

/-- The loop's step: what stood so far, eight bits up, and the byte below. -/
theorem get_step (x c : Int) (h0 : 0 ≤ x) (h1 : x ≤ 72057594037927935) (hc : 0 ≤ c ∧ c ≤ 255) : bits .or .u64 (x * 256) c = c + 256 * x := by
  rw [u64_or _ _ (by omega) (by omega) (by omega) (by omega)]
  obtain ⟨n, rfl⟩ := Int.eq_ofNat_of_zero_le h0
  obtain ⟨m, rfl⟩ := Int.eq_ofNat_of_zero_le hc.1
  rw [nat_join 8 ((n : Int) * 256).toNat (m : Int).toNat (by omega) (by omega)]
  omega

theorem get_nat (b off : Nat) (len cap : Nat) (l : List Int) (p n : Nat) (w : World) (hl : l.length = len) (hc : len ≤ 140737488351232) (hb : IsB l) (hcell : ∀ i, i < l.length → w.cell? ⟨b, off + i, none⟩ = some (.int .u8 (l[i]?.getD 0)))
    (hs : okSize n = true) (hp : p + n ≤ len) :
    Calls Try.prog 11 #[.slice (some ⟨b, off, none⟩) len cap, .int .i64 p, .int .i64 n] w fun e w' => e = .returned (.tuple #[.int .u64 (leN ((l.drop p).take n)), .bool true]) ∧ w = w' := by
  have hn : n ≤ 8 ∧ 1 ≤ n := by rcases okSize_cases hs with h | h | h | h <;> omega
  have Hl := Lib.hid hl
  clear hl
  go_enter Try.func11, Try.ntmps11
  go_wp2_with (go_at_call 19; refine (size_any _ _).mono ?_; rintro e w' ⟨rfl, rfl⟩)
  go_loop [8, 9] (fun v i => ∃ k : Nat, k ≤ n ∧ i = .int .i64 ((n : Int) - 1 - k) ∧ v = .int .u64 (leN ((l.drop (p + (n - k))).take k))) (fun _ i => (intOf i + 1).toNat)
  case atStart => exact ⟨0, Nat.zero_le _, by simp, by simp [leN]⟩
  case round =>
    obtain ⟨k, hk, rfl, rfl⟩ := hrel
    by_cases hlt : k < n
    · have hcj := hcell (p + (n - 1 - k)) (by have := Hl.out; omega)
      have hbj := hb.getD (p + (n - 1 - k))
      have hx := leN_le ((l.drop (p + (n - 1 - k) + 1)).take k) ((hb.drop _).take _) 7 (by simp; omega)
      have hx2 : leN ((l.drop (p + (n - 1 - k) + 1)).take k) ≤ 72057594037927935 := by have := hx.2; simp at this; omega
      have hx1 := hx.1
      have He := Lib.hid (take_succ_drop l (p + (n - 1 - k)) k (by have := Hl.out; omega))
      rw [show p + (n - k) = p + (n - 1 - k) + 1 by omega]
      generalize hgx : leN ((l.drop (p + (n - 1 - k) + 1)).take k) = x at hx1 hx2 ⊢
      have Hx := Lib.hid hgx
      have Hstep := Lib.hid (get_step x _ hx1 hx2 hbj)
      clear hx hcell hgx
      go_wp2
      go_round
      case rel => exact ⟨k + 1, by omega, by rw [show (n : Int) - 1 - k - 1 = n - 1 - (k + 1 : Nat) by omega], by rw [show p + (n - (k + 1)) = p + (n - 1 - k) by omega, He.out, leN, Hx.out, Hstep.out]⟩
      case measure => simp [intOf]; omega
    · have : k = n := by omega
      subst this
      clear hcell
      go_wp2
      go_ret2
      exact ⟨by simp, rfl⟩

/-- What Get tells. -/
def getB (l : List Int) (p n : Int) : Bool := okSize n && decide (0 ≤ p) && decide (p + n ≤ l.length)
def getA (l : List Int) (p n : Int) : Int := if getB l p n = true then leN ((l.drop p.toNat).take n.toNat) else 0

theorem get_any (a : Option Addr) (len cap : Nat) (l : List Int) (p n : Int) (w : World) (hr : RdB w a len cap l) (hlen : len ≤ 140737488351232) :
    Calls Try.prog 11 #[.slice a len cap, .int .i64 p, .int .i64 n] w fun e w' => e = .returned (.tuple #[.int .u64 (getA l p n), .bool (getB l p n)]) ∧ w = w' := by
  by_cases hg : getB l p n = true
  · have h := hg
    simp only [getB, Bool.and_eq_true, decide_eq_true_eq] at h
    obtain ⟨⟨hs, h0⟩, h1⟩ := h
    rw [getA, if_pos hg, hg]
    obtain ⟨P, rfl⟩ := Int.eq_ofNat_of_zero_le h0
    have hn : n = 1 ∨ n = 2 ∨ n = 4 ∨ n = 8 := okSize_cases hs
    obtain ⟨N, rfl⟩ := Int.eq_ofNat_of_zero_le (show 0 ≤ n by omega)
    have hl := hr.len
    obtain ⟨b, off, rfl, _, hc⟩ := hr.2.at (by omega)
    simp only [Int.toNat_natCast]
    exact get_nat b off len cap l P N w hl hlen hr.1 (fun i hi => cellInt hc i hi) hs (by omega)
  · rw [getA, if_neg hg, show getB l p n = false by simpa using hg]
    refine get_no a len cap p n w hlen ?_
    have hl := hr.len
    simp only [getB, Bool.and_eq_true, decide_eq_true_eq] at hg
    by_cases hs : okSize n = true
    · right
      by_cases h0 : p < 0
      · exact .inl h0
      · right
        have : ¬ (p + n ≤ l.length) := fun hh => hg ⟨⟨hs, by omega⟩, hh⟩
        omega
    · left; simpa using hs

/-! ### Clone -/
theorem Try.u8Info : (Try.prog.info? 5).map (fun i => (i.zero, i.size, i.bytes)) = some (some (.int .u8 0), 1, 1) := by kernel_rfl
theorem Try.oneB : OneInfo Try.prog 28 5 1 := by
  obtain ⟨i, hi, h0, h1, h2⟩ := info_parts Try.u8Info
  exact ⟨Try.underlying28, i, _, hi, h0, h1, h2, rfl⟩

theorem Try.zeroB : (Try.prog.info? 5).map (fun i => i.zero) = some (some (.int .u8 0)) := by kernel_rfl

/-- The answer of a call that hands back bytes of its own. -/
def NewB (base : Nat) (w : World) (l : List Int) (e : Ending) (w' : World) : Prop := ∃ a cap, e = .returned (.slice a l.length cap) ∧ OwnB 5 w' base a l.length cap l ∧ Below base w w'

theorem clone_any (a : Option Addr) (len cap : Nat) (l : List Int) (w : World) (hr : RdB w a len cap l) (hlen : len ≤ 140737488351232) :
    Calls Try.prog 20 #[.slice a len cap] w (NewB w.heap.size w l) := by
  have qn : ∀ (w : World) (a : Option Addr) (n c : Nat), (binOp .eql 28 (.slice a n c) (.slice none 0 0)).run Try.prog w = .ok (.bool a.isNone) w := fun w a n c => Lib.run_eql_slice_nil w _ _ a n c 0 0 Try.underlying28
  have Hl := Lib.hid hr.len
  cases a with
  | none =>
    have h0 : len = 0 := by
      have h1 := hr.2.2.1
      have h2 := hr.2.2.2.2.1 rfl
      omega
    obtain rfl : l = [] := List.eq_nil_of_length_eq_zero (by have := Hl.out; omega)
    clear h0
    go_enter Try.func20, Try.ntmps20
    go_wp2
    go_ret
    exact ⟨none, 0, rfl, ⟨IsB.nil, Own.nil _ _ _ _⟩, Below.refl _ _⟩
  | some ad =>
    go_enter Try.func20, Try.ntmps20
    have hr1 := hr.2.mono ((Below.refl _ _).alloc (Nat.le_refl _) (.cells #[] 5))
    have ho1 : Own (Value.int .u8) 5 (w.alloc (.cells #[] 5)) w.heap.size (some ⟨w.heap.size, 0, none⟩) 0 0 [] := Own.lit [] _ 0 rfl rfl (Nat.le_refl _) (Nat.zero_le _)
    go_wp2_with (at_builtin; go_must (refine wpList_appOwn rfl rfl Try.oneB rfl rfl ho1 hr1 (fun _ => rfl) (by omega) (by omega) (by simp) ?_); intro a' c' w' ho hb hn _)
    go_ret
    obtain rfl : l.length = len := Hl.out
    rw [Nat.zero_add] at ho
    exact ⟨a', c', rfl, ⟨hr.1, ho⟩, (((Below.refl _ _).alloc (Nat.le_refl _) _)).trans hb⟩

/-! ### Add -/
theorem digs_next (v : Int) (k : Nat) (l : List Int) : l ++ digs k v ++ [v / 2 ^ (8 * k) % 256] = l ++ digs (k + 1) v := by
  rw [digs_snoc, List.append_assoc, Int.pow_mul]
  rfl

theorem add_yes (a : Option Addr) (len cap : Nat) (l : List Int) (n : Nat) (v : Int) (w : World) (hr : RdB w a len cap l) (hlen : len ≤ 140737488351000) (hs : okSize n = true) (hv : 0 ≤ v ∧ v ≤ 18446744073709551615) :
    Calls Try.prog 17 #[.slice a len cap, .int .i64 n, .int .u64 v] w (NewB w.heap.size w (l ++ digs n v)) := by
  have hn : n ≤ 8 ∧ 1 ≤ n := by rcases okSize_cases hs with h | h | h | h <;> omega
  obtain rfl : l.length = len := hr.len
  go_enter Try.func17, Try.ntmps17
  go_wp2_with (first | (go_at_call 20; refine (clone_any _ _ _ l _ hr (by omega)).mono ?_; rintro e w1 ⟨a1, c1, rfl, ho1, hb1⟩) | (go_at_call 19; refine (size_any _ _).mono ?_; rintro e w' ⟨rfl, rfl⟩))
  go_loopw [7, 16] (fun s i wr => ∃ (k : Nat) (a' : Option Addr) (c' : Nat), k ≤ n ∧ i = .int .i64 k ∧ s = .slice a' (l.length + k) c' ∧ OwnB 5 wr w.heap.size a' (l.length + k) c' (l ++ digs k v) ∧ Below w.heap.size w wr) (fun _ i _ => n - (intOf i).toNat)
  case atStart => exact ⟨0, a1, c1, Nat.zero_le _, rfl, rfl, by simpa [digs] using ho1, hb1⟩
  case round =>
    obtain ⟨k, a', c', hk, rfl, rfl, ho, hb⟩ := hrel
    by_cases hlt : k < n
    · have hsz := hb.size
      go_wp2_with (at_builtin; go_must (refine wpList_appOwn rfl rfl Try.oneB rfl rfl (ho.2.alloc _) (Rd.one _ _ _ _) (fun _ => rfl) (by omega) (by omega) (by simp; omega) ?_); intro a2 c2 w2 ho2 hb2 hn2 _)
      go_roundw
      case rel =>
        rw [digs_next] at ho2
        exact ⟨k + 1, a2, c2, by omega, by go_num, rfl, ⟨hr.1.append (digs_isB _ _), ho2⟩, (hb.alloc hsz _).trans hb2⟩
      case measure => simp [intOf]; omega
    · have : k = n := by omega
      subst this
      have Hl := Lib.hid ho.len
      go_wp2
      go_ret
      exact ⟨a', c', by rw [Hl.out]; rfl, by rw [Hl.out]; exact ho, hb⟩

theorem add_no (a : Option Addr) (len cap : Nat) (l : List Int) (n v : Int) (w : World) (hr : RdB w a len cap l) (hlen : len ≤ 140737488351000) (hs : okSize n = false) :
    Calls Try.prog 17 #[.slice a len cap, .int .i64 n, .int .u64 v] w (NewB w.heap.size w l) := by
  obtain rfl : l.length = len := hr.len
  go_enter Try.func17, Try.ntmps17
  go_wp2_with (first | (go_at_call 20; refine (clone_any _ _ _ l _ hr (by omega)).mono ?_; rintro e w1 ⟨a1, c1, rfl, ho1, hb1⟩) | (go_at_call 19; refine (size_any _ _).mono ?_; rintro e w' ⟨rfl, rfl⟩))
  go_ret
  exact ⟨a1, c1, rfl, ho1, hb1⟩

def addV (l : List Int) (n v : Int) : List Int := if okSize n then l ++ digs n.toNat v else l

theorem add_any (a : Option Addr) (len cap : Nat) (l : List Int) (n v : Int) (w : World) (hr : RdB w a len cap l) (hlen : len ≤ 140737488351000) (hv : 0 ≤ v ∧ v ≤ 18446744073709551615) :
    Calls Try.prog 17 #[.slice a len cap, .int .i64 n, .int .u64 v] w (NewB w.heap.size w (addV l n v)) := by
  unfold addV
  cases hs : okSize n
  · simpa using add_no a len cap l n v w hr hlen hs
  · obtain ⟨m, rfl⟩ := Int.eq_ofNat_of_zero_le (show 0 ≤ n by rcases okSize_cases hs with h | h | h | h <;> omega)
    simpa using add_yes a len cap l m v w hr hlen hs hv

/-! ### Put -/
theorem put_yes (a : Option Addr) (len cap : Nat) (l : List Int) (p n : Nat) (v : Int) (w : World) (hr : RdB w a len cap l) (hlen : len ≤ 140737488351000) (hs : okSize n = true) (hp : p + n ≤ len) (hv : 0 ≤ v ∧ v ≤ 18446744073709551615) :
    Calls Try.prog 13 #[.slice a len cap, .int .i64 p, .int .i64 n, .int .u64 v] w fun e w' => ∃ a' c', e = .returned (.tuple #[.slice a' len c', .bool true]) ∧ OwnB 5 w' w.heap.size a' len c' (putL l p n v) ∧ Below w.heap.size w w' := by
  have hn : n ≤ 8 ∧ 1 ≤ n := by rcases okSize_cases hs with h | h | h | h <;> omega
  obtain rfl : l.length = len := hr.len
  go_enter Try.func13, Try.ntmps13
  go_wp2_with (first | (go_at_call 20; refine (clone_any _ _ _ l _ hr (by omega)).mono ?_; rintro e w1 ⟨a1, c1, rfl, ho1, hb1⟩) | (go_at_call 19; refine (size_any _ _).mono ?_; rintro e w' ⟨rfl, rfl⟩))
  obtain ⟨g, rfl, hg1, hg2⟩ := ho1.2.at (by omega)
  go_loopw [30] (fun i wr => ∃ (k : Nat), k ≤ n ∧ i = .int .i64 k ∧ Own (Value.int .u8) 5 wr w.heap.size (some ⟨g, 0, none⟩) l.length c1 (putL l p k v) ∧ Below w.heap.size w wr) (fun i _ => n - (intOf i).toNat)
  case atStart => exact ⟨0, Nat.zero_le _, rfl, by rw [putL_zero]; exact ho1.2, hb1⟩
  case round =>
    obtain ⟨k, hk, rfl, ho, hb⟩ := hrel
    by_cases hlt : k < n
    · have hsz := hb.size
      obtain ⟨x, hx⟩ : ∃ x, (putL l p k v)[p + k]? = some x := ⟨_, List.getElem?_eq_getElem (by rw [putL_length l p k v (by omega)]; omega)⟩
      have hc := ho.cell (p + k) x hx
      have hf := ho.free (p + k)
      have HO := Lib.hid (ho.set (p + k) (v / 2 ^ (8 * k) % 256))
      have HS := Lib.hid (putL_set l p k v (by omega))
      clear hx
      go_wp2
      go_roundw
      case rel =>
        have h1 := HO.out
        rw [HS.out] at h1
        exact ⟨k + 1, by omega, by go_num, h1, hb.setCell hg1 _⟩
      case measure => simp [intOf]; omega
    · have : k = n := by omega
      subst this
      go_wp2
      go_ret2
      exact ⟨_, c1, rfl, ⟨putL_isB _ _ _ _ hr.1, ho⟩, hb⟩

theorem put_no (a : Option Addr) (len cap : Nat) (p n v : Int) (w : World) (hlen : len ≤ 140737488351232) (h : okSize n = false ∨ p < 0 ∨ (len : Int) - n < p) :
    Calls Try.prog 13 #[.slice a len cap, .int .i64 p, .int .i64 n, .int .u64 v] w fun e w' => e = .returned (.tuple #[.slice none 0 0, .bool false]) ∧ w = w' := by
  cases hs : okSize n
  · go_enter Try.func13, Try.ntmps13
    go_wp2_with (go_at_call 19; refine (size_any _ _).mono ?_; rintro e w' ⟨rfl, rfl⟩)
    go_ret2
    exact ⟨rfl, rfl⟩
  · have hb : 1 ≤ n ∧ n ≤ 8 := by rcases okSize_cases hs with h | h | h | h <;> omega
    have h' : p < 0 ∨ (len : Int) - n < p := by simpa [hs] using h
    clear h
    by_cases hp : p < 0
    · clear h'
      go_enter Try.func13, Try.ntmps13
      go_wp2_with (go_at_call 19; refine (size_any _ _).mono ?_; rintro e w' ⟨rfl, rfl⟩)
      go_ret2
      exact ⟨rfl, rfl⟩
    · have h2 : (len : Int) - n < p := by omega
      clear h'
      go_enter Try.func13, Try.ntmps13
      go_wp2_with (go_at_call 19; refine (size_any _ _).mono ?_; rintro e w' ⟨rfl, rfl⟩)
      go_ret2
      exact ⟨rfl, rfl⟩

def putV (l : List Int) (p n v : Int) : List Int := if getB l p n then putL l p.toNat n.toNat v else []

theorem put_any (a : Option Addr) (len cap : Nat) (l : List Int) (p n v : Int) (w : World) (hr : RdB w a len cap l) (hlen : len ≤ 140737488351000) (hv : 0 ≤ v ∧ v ≤ 18446744073709551615) :
    Calls Try.prog 13 #[.slice a len cap, .int .i64 p, .int .i64 n, .int .u64 v] w
      fun e w' => ∃ a' c', e = .returned (.tuple #[.slice a' (putV l p n v).length c', .bool (getB l p n)]) ∧ OwnB 5 w' w.heap.size a' (putV l p n v).length c' (putV l p n v) ∧ Below w.heap.size w w' := by
  have hl := hr.len
  unfold putV
  by_cases hg : getB l p n = true
  · have h := hg
    simp only [getB, Bool.and_eq_true, decide_eq_true_eq] at h
    obtain ⟨⟨hs, h0⟩, h1⟩ := h
    rw [if_pos hg, hg]
    obtain ⟨P, rfl⟩ := Int.eq_ofNat_of_zero_le h0
    have hn : n = 1 ∨ n = 2 ∨ n = 4 ∨ n = 8 := okSize_cases hs
    obtain ⟨N, rfl⟩ := Int.eq_ofNat_of_zero_le (show 0 ≤ n by omega)
    simp only [Int.toNat_natCast]
    rw [putL_length l P N v (by omega), hl]
    exact put_yes a len cap l P N v w hr hlen hs (by omega) hv
  · rw [if_neg hg, show getB l p n = false by simpa using hg]
    refine (put_no a len cap p n v w (by omega) ?_).mono ?_
    · simp only [getB, Bool.and_eq_true, decide_eq_true_eq] at hg
      by_cases hs : okSize n = true
      · right
        by_cases h0 : p < 0
        · exact .inl h0
        · right
          have : ¬ (p + n ≤ l.length) := fun hh => hg ⟨⟨hs, by omega⟩, hh⟩
          omega
      · left; simpa using hs
    · rintro e w' ⟨rfl, rfl⟩
      exact ⟨none, 0, rfl, ⟨IsB.nil, Own.nil _ _ _ _⟩, Below.refl _ _⟩

end Go.Proofs.Ytjmhllifoeidbaa
