/- Contracts of the document's own answers for numbers in bytes: what each computes. Conditions stand as premises. -/
import Derived.Test.YtjmhllifoeidbaaLe
namespace Go.Proofs.Ytjmhllifoeidbaa
open Go.ChangeShapes Go.WideShapes Go.ChangeAt Go.RowKit
set_option linter.unusedVariables false

/-! ### Align -/
def alignA (v : Int) : Int := if v ≤ 18446744073709551608 then (v + 7) / 8 * 8 else 0
def alignB (v : Int) : Bool := decide (v ≤ 18446744073709551608)

theorem align_any (v : Int) (h0 : 0 ≤ v) (w : World) :
    Calls Try.prog 8 #[.int .u64 v] w fun e w' => e = .returned (.tuple #[.int .u64 (alignA v), .bool (alignB v)]) ∧ w = w' := by
  unfold alignA alignB
  by_cases h : v ≤ 18446744073709551608
  · rw [if_pos h, decide_eq_true h]; exact align_yes v h0 h w
  · rw [if_neg h, decide_eq_false h]; exact align_no v h0 (by omega) w

theorem refalign_any (v : Int) (h0 : 0 ≤ v) (h1 : v ≤ 18446744073709551615) (w : World) :
    Calls Try.prog 15 #[.int .u64 v] w fun e w' => e = .returned (.tuple #[.int .u64 (alignA v), .bool (alignB v)]) ∧ w = w' := by
  unfold alignA alignB
  by_cases h : v % 8 = 0
  · have : v ≤ 18446744073709551608 := by omega
    rw [if_pos this, decide_eq_true this, show (v + 7) / 8 * 8 = v by omega]
    clear this
    go_enter Try.func15, Try.ntmps15
    go_wp2
    go_ret2
    exact ⟨rfl, rfl⟩
  · by_cases h2 : v ≤ 18446744073709551608
    · rw [if_pos h2, decide_eq_true h2, show (v + 7) / 8 * 8 = v - v % 8 + 8 by omega]
      have h3 : ¬ (v - v % 8 = 18446744073709551608) := by omega
      go_enter Try.func15, Try.ntmps15
      go_wp2
      go_ret2
      exact ⟨rfl, rfl⟩
    · rw [if_neg h2, decide_eq_false h2]
      have h3 : v - v % 8 = 18446744073709551608 := by omega
      go_enter Try.func15, Try.ntmps15
      go_wp2
      go_ret2
      exact ⟨rfl, rfl⟩

/-! ### Get -/
theorem refget_nat (b off : Nat) (len cap : Nat) (l : List Int) (p n : Nat) (w : World) (hl : l.length = len) (hc : len ≤ 140737488351232) (hb : IsB l) (hcell : ∀ i, i < l.length → w.cell? ⟨b, off + i, none⟩ = some (.int .u8 (l[i]?.getD 0)))
    (hs : okSize n = true) (hp : p + n ≤ len) :
    Calls Try.prog 12 #[.slice (some ⟨b, off, none⟩) len cap, .int .i64 p, .int .i64 n] w fun e w' => e = .returned (.tuple #[.int .u64 (leN ((l.drop p).take n)), .bool true]) ∧ w = w' := by
  have hn0 := okSize_cases hs
  have hn : n ≤ 8 ∧ 1 ≤ n := by omega
  have Hl := Lib.hid hl
  clear hl
  rcases hn0 with h | h | h | h
  all_goals
    first | have t1 : ((n : Int) != 1) = true := by rw [bne_iff_ne]; omega | have t1 : ((n : Int) != 1) = false := by simp [h]
    first | have t2 : ((n : Int) != 2) = true := by rw [bne_iff_ne]; omega | have t2 : ((n : Int) != 2) = false := by simp [h]
    first | have t3 : ((n : Int) != 4) = true := by rw [bne_iff_ne]; omega | have t3 : ((n : Int) != 4) = false := by simp [h]
    first | have t4 : ((n : Int) != 8) = true := by rw [bne_iff_ne]; omega | have t4 : ((n : Int) != 8) = false := by simp [h]
    clear h
    go_enter Try.func12, Try.ntmps12
    go_wp2_with fail
    go_loop [8, 9] (fun v i => ∃ k : Nat, k ≤ n ∧ i = .int .i64 ((n : Int) - 1 - k) ∧ v = .int .u64 (leN ((l.drop (p + (n - k))).take k))) (fun _ i => (intOf i + 1).toNat)
    case atStart => exact ⟨0, Nat.zero_le _, by simp, by simp [leN]⟩
    case round =>
      obtain ⟨k, hk, rfl, rfl⟩ := hrel
      by_cases hlt : k < n
      · have hcj := hcell (p + (n - 1 - k)) (by have := Hl.out; omega)
        have hbj := hb.getD (p + (n - 1 - k))
        have hx := leN_le ((l.drop (p + (n - 1 - k) + 1)).take k) ((hb.drop _).take _) 7 (by simp; omega)
        have hx2 : leN ((l.drop (p + (n - 1 - k) + 1)).take k) ≤ 72057594037927935 := by have := hx.2; simp at this; omega
        have hx1 := hx.1
        have He := Lib.hid (take_succ_drop l (p + (n - 1 - k)) k (by have := Hl.out; omega))
        rw [show p + (n - k) = p + (n - 1 - k) + 1 by omega]
        generalize hgx : leN ((l.drop (p + (n - 1 - k) + 1)).take k) = x at hx1 hx2 ⊢
        have Hx := Lib.hid hgx
        clear hx hcell hgx
        go_wp2
        go_round
        case rel => exact ⟨k + 1, by omega, by rw [show (n : Int) - 1 - k - 1 = n - 1 - (k + 1 : Nat) by omega], by rw [show p + (n - (k + 1)) = p + (n - 1 - k) by omega, He.out, leN, Hx.out, Int.mul_comm, Int.add_comm]⟩
        case measure => simp [intOf]; omega
      · have : k = n := by omega
        subst this
        clear hcell
        go_wp2
        go_ret2
        exact ⟨by simp, rfl⟩

theorem okSize_no {n : Int} (h : okSize n = false) : (n != 1) = true ∧ (n != 2) = true ∧ (n != 4) = true ∧ (n != 8) = true := by
  simp only [okSize, Bool.or_eq_false_iff] at h
  obtain ⟨⟨⟨h1, h2⟩, h3⟩, h4⟩ := h
  exact ⟨by rw [bne, h1]; rfl, by rw [bne, h2]; rfl, by rw [bne, h3]; rfl, by rw [bne, h4]; rfl⟩

theorem refget_no (a : Option Addr) (len cap : Nat) (p n : Int) (w : World) (hlen : len ≤ 140737488351232) (hp63 : p ≤ 9223372036854775807) (h : okSize n = false ∨ p < 0 ∨ (len : Int) - n < p) :
    Calls Try.prog 12 #[.slice a len cap, .int .i64 p, .int .i64 n] w fun e w' => e = .returned (.tuple #[.int .u64 0, .bool false]) ∧ w = w' := by
  cases hs : okSize n
  · obtain ⟨t1, t2, t3, t4⟩ := okSize_no hs
    clear h hs
    go_enter Try.func12, Try.ntmps12
    go_wp2
    go_ret2
    exact ⟨rfl, rfl⟩
  · have hb : 1 ≤ n ∧ n ≤ 8 := by rcases okSize_cases hs with h | h | h | h <;> omega
    have h' : p < 0 ∨ (len : Int) - n < p := by simpa [hs] using h
    have hn0 := okSize_cases hs
    clear h hs
    rcases hn0 with h | h | h | h
    all_goals
      first | have t1 : ((n : Int) != 1) = true := by rw [bne_iff_ne]; omega | have t1 : ((n : Int) != 1) = false := by simp [h]
      first | have t2 : ((n : Int) != 2) = true := by rw [bne_iff_ne]; omega | have t2 : ((n : Int) != 2) = false := by simp [h]
      first | have t3 : ((n : Int) != 4) = true := by rw [bne_iff_ne]; omega | have t3 : ((n : Int) != 4) = false := by simp [h]
      first | have t4 : ((n : Int) != 8) = true := by rw [bne_iff_ne]; omega | have t4 : ((n : Int) != 8) = false := by simp [h]
      clear h
      by_cases hp : p < 0
      · clear h'
        go_enter Try.func12, Try.ntmps12
        go_wp2
        go_ret2
        exact ⟨rfl, rfl⟩
      · have h2 : (len : Int) - n < p := by omega
        clear h'
        by_cases hp2 : (len : Int) < p
        · go_enter Try.func12, Try.ntmps12
          go_wp2
          go_ret2
          exact ⟨rfl, rfl⟩
        · have h3 : (len : Int) - p < n := by omega
          go_enter Try.func12, Try.ntmps12
          go_wp2
          go_ret2
          exact ⟨rfl, rfl⟩

theorem refget_any (a : Option Addr) (len cap : Nat) (l : List Int) (p n : Int) (w : World) (hr : RdB w a len cap l) (hlen : len ≤ 140737488351232) (hp63 : p ≤ 9223372036854775807) :
    Calls Try.prog 12 #[.slice a len cap, .int .i64 p, .int .i64 n] w fun e w' => e = .returned (.tuple #[.int .u64 (getA l p n), .bool (getB l p n)]) ∧ w = w' := by
  by_cases hg : getB l p n = true
  · have h := hg
    simp only [getB, Bool.and_eq_true, decide_eq_true_eq] at h
    obtain ⟨⟨hs, h0⟩, h1⟩ := h
    rw [getA, if_pos hg, hg]
    obtain ⟨P, rfl⟩ := Int.eq_ofNat_of_zero_le h0
    have hn : n = 1 ∨ n = 2 ∨ n = 4 ∨ n = 8 := okSize_cases hs
    obtain ⟨N, rfl⟩ := Int.eq_ofNat_of_zero_le (show 0 ≤ n by omega)
    have hl := hr.len
    obtain ⟨b, off, rfl, _, hc⟩ := hr.2.at (by omega)
    simp only [Int.toNat_natCast]
    exact refget_nat b off len cap l P N w hl hlen hr.1 (fun i hi => cellInt hc i hi) hs (by omega)
  · rw [getA, if_neg hg, show getB l p n = false by simpa using hg]
    refine refget_no a len cap p n w hlen hp63 ?_
    have hl := hr.len
    simp only [getB, Bool.and_eq_true, decide_eq_true_eq] at hg
    by_cases hs : okSize n = true
    · right
      by_cases h0 : p < 0
      · exact .inl h0
      · right
        have : ¬ (p + n ≤ l.length) := fun hh => hg ⟨⟨hs, by omega⟩, hh⟩
        omega
    · left; simpa using hs

/-! ### Low -/
theorem low_any (v : Int) (n : Nat) (w : World) (hv : 0 ≤ v ∧ v ≤ 18446744073709551615) (hn : n ≤ 1000) :
    Calls Try.prog 21 #[.int .u64 v, .int .i64 n] w (NewB w.heap.size w (digs n v)) := by
  go_enter Try.func21, Try.ntmps21
  go_wp2_with fail
  go_loopw [0, 5, 6] (fun x s i wr => ∃ (k : Nat) (a' : Option Addr) (c' : Nat) (y : Int), k ≤ n ∧ i = .int .i64 k ∧ x = .int .u64 y ∧ Hid (y = v / 256 ^ k) ∧ 0 ≤ y ∧ y ≤ 18446744073709551615 ∧ s = .slice a' k c' ∧ OwnB 5 wr w.heap.size a' k c' (digs k v) ∧ Below w.heap.size w wr) (fun _ _ i _ => n - (intOf i).toNat)
  case atStart => exact ⟨0, none, 0, v, Nat.zero_le _, rfl, rfl, Lib.hid (by simp), hv.1, hv.2, rfl, ⟨IsB.nil, Own.nil _ _ _ _⟩, Below.refl _ _⟩
  case round =>
    obtain ⟨k, a', c', y, hk, rfl, rfl, Hy, hy1, hy2, rfl, ho, hb⟩ := hrel
    by_cases hlt : k < n
    · have hsz := hb.size
      go_wp2_with (at_builtin; go_must (refine wpList_appOwn rfl rfl Try.oneB rfl rfl (ho.2.alloc _) (Rd.one _ _ _ _) (fun _ => rfl) (by omega) (by omega) (by simp; omega) ?_); intro a2 c2 w2 ho2 hb2 hn2 _)
      go_roundw
      case rel =>
        have hy := Hy.out
        subst hy
        have h5 : (v / 256 ^ k) / 256 = v / 256 ^ (k + 1) := by rw [Int.ediv_ediv_of_nonneg (Int.le_of_lt (Int.pow_pos (by decide))), Int.pow_succ]
        have h6 : v / 256 ^ (k + 1) ≤ v := Int.ediv_le_self _ hv.1
        have h7 : 0 ≤ v / 256 ^ (k + 1) := Int.ediv_nonneg hv.1 (Int.le_of_lt (Int.pow_pos (by decide)))
        refine ⟨k + 1, a2, c2, _, by omega, by go_num, rfl, Lib.hid h5, by omega, by omega, rfl, ⟨digs_isB _ _, ?_⟩, (hb.alloc hsz _).trans hb2⟩
        rw [digs_snoc]; exact ho2
      case measure => simp [intOf]; omega
    · have : k = n := by omega
      subst this
      have Hl := Lib.hid (digs_length k v)
      go_wp2
      go_ret
      exact ⟨a', c', by rw [Hl.out]; rfl, by rw [Hl.out]; exact ho, hb⟩

/-! ### SameBytes -/
theorem same_any (a1 a2 : Option Addr) (n1 c1 n2 c2 : Nat) (l1 l2 : List Int) (w : World) (h1 : RdB w a1 n1 c1 l1) (h2 : RdB w a2 n2 c2 l2) :
    Calls Try.prog 16 #[.slice a1 n1 c1, .slice a2 n2 c2] w fun e w' => e = .returned (.bool (decide (l1 = l2))) ∧ w = w' := by
  have H := Lib.hid (bstr_same h1.1 h2.1)
  go_enter Try.func16, Try.ntmps16
  go_wp2_with (first | (with_reducible refine wpList_bytesString rfl rfl Try.underlying28 Try.underlying5 Try.underlying9 rfl h1 ?_) | (with_reducible refine wpList_bytesString rfl rfl Try.underlying28 Try.underlying5 Try.underlying9 rfl h2 ?_))
  go_ret
  exact ⟨ret_bool H.out, rfl⟩

/-! ### Add -/
theorem refadd_yes (a : Option Addr) (len cap : Nat) (l : List Int) (n : Nat) (v : Int) (w : World) (hr : RdB w a len cap l) (hlen : len ≤ 140737488351000) (hs : okSize n = true) (hv : 0 ≤ v ∧ v ≤ 18446744073709551615) :
    Calls Try.prog 18 #[.slice a len cap, .int .i64 n, .int .u64 v] w (NewB w.heap.size w (l ++ digs n v)) := by
  have hn0 := okSize_cases hs
  have hn : n ≤ 8 ∧ 1 ≤ n := by omega
  obtain rfl : l.length = len := hr.len
  have hr1 := hr.2.alloc (.cells #[] 5)
  have ho1 : Own (Value.int .u8) 5 (w.alloc (.cells #[] 5)) w.heap.size (some ⟨w.heap.size, 0, none⟩) 0 0 [] := Own.lit [] _ 0 rfl rfl (Nat.le_refl _) (Nat.zero_le _)
  rcases hn0 with h | h | h | h
  all_goals
    first | have t1 : ((n : Int) != 1) = true := by rw [bne_iff_ne]; omega | have t1 : ((n : Int) != 1) = false := by simp [h]
    first | have t2 : ((n : Int) != 2) = true := by rw [bne_iff_ne]; omega | have t2 : ((n : Int) != 2) = false := by simp [h]
    first | have t3 : ((n : Int) != 4) = true := by rw [bne_iff_ne]; omega | have t3 : ((n : Int) != 4) = false := by simp [h]
    first | have t4 : ((n : Int) != 8) = true := by rw [bne_iff_ne]; omega | have t4 : ((n : Int) != 8) = false := by simp [h]
    clear h
    go_enter Try.func18, Try.ntmps18
    go_wp2_with (at_builtin; go_must (refine wpList_appOwn rfl rfl Try.oneB rfl rfl ho1 hr1 (fun _ => rfl) (by omega) (by omega) (by simp) ?_); intro a2 c2 w2 ho2 hb2 _ _)
    refine (low_any _ _ _ hv (by omega)).mono ?_
    rintro e w3 ⟨a3, c3, rfl, ho3, hb3⟩
    have Hd := Lib.hid (digs_length n v)
    have hsz := hb2.size
    have hsz3 := hb3.size
    simp only [World.size_alloc] at hsz
    simp only [Nat.zero_add, List.nil_append] at ho2
    go_wp2_with (at_builtin; go_must (refine wpList_appOwn rfl rfl Try.oneB rfl rfl (ho2.mono hb3) ho3.2.rd (fun _ => rfl) (by have := Hd.out; omega) (by have := Hd.out; omega) (by omega) ?_); intro a4 c4 w4 ho4 hb4 _ _)
    go_ret
    refine ⟨a4, c4, by simp, ⟨hr.1.append (digs_isB _ _), by simpa using ho4⟩, ?_⟩
    exact ((((Below.refl _ _).alloc (Nat.le_refl _) _).trans hb2).trans (hb3.mono (by omega))).trans hb4

theorem refadd_no (a : Option Addr) (len cap : Nat) (l : List Int) (n v : Int) (w : World) (hr : RdB w a len cap l) (hlen : len ≤ 140737488351000) (hs : okSize n = false) :
    Calls Try.prog 18 #[.slice a len cap, .int .i64 n, .int .u64 v] w (NewB w.heap.size w l) := by
  obtain rfl : l.length = len := hr.len
  obtain ⟨t1, t2, t3, t4⟩ := okSize_no hs
  have hr1 := hr.2.alloc (.cells #[] 5)
  have ho1 : Own (Value.int .u8) 5 (w.alloc (.cells #[] 5)) w.heap.size (some ⟨w.heap.size, 0, none⟩) 0 0 [] := Own.lit [] _ 0 rfl rfl (Nat.le_refl _) (Nat.zero_le _)
  go_enter Try.func18, Try.ntmps18
  go_wp2_with (at_builtin; go_must (refine wpList_appOwn rfl rfl Try.oneB rfl rfl ho1 hr1 (fun _ => rfl) (by omega) (by omega) (by simp) ?_); intro a2 c2 w2 ho2 hb2 _ _)
  go_ret
  exact ⟨a2, c2, by simp, ⟨hr.1, by simpa using ho2⟩, ((Below.refl _ _).alloc (Nat.le_refl _) _).trans hb2⟩

theorem refadd_any (a : Option Addr) (len cap : Nat) (l : List Int) (n v : Int) (w : World) (hr : RdB w a len cap l) (hlen : len ≤ 140737488351000) (hv : 0 ≤ v ∧ v ≤ 18446744073709551615) :
    Calls Try.prog 18 #[.slice a len cap, .int .i64 n, .int .u64 v] w (NewB w.heap.size w (addV l n v)) := by
  unfold addV
  cases hs : okSize n
  · simpa using refadd_no a len cap l n v w hr hlen hs
  · obtain ⟨m, rfl⟩ := Int.eq_ofNat_of_zero_le (show 0 ≤ n by rcases okSize_cases hs with h | h | h | h <;> omega)
    simpa using refadd_yes a len cap l m v w hr hlen hs hv

/-! ### Put -/
theorem refput_no (a : Option Addr) (len cap : Nat) (l : List Int) (p n v : Int) (w : World) (hr : RdB w a len cap l) (hlen : len ≤ 140737488351000) (hp63 : p ≤ 9223372036854775807) (hg : getB l p n = false) :
    Calls Try.prog 14 #[.slice a len cap, .int .i64 p, .int .i64 n, .int .u64 v] w fun e w' => e = .returned (.tuple #[.slice none 0 0, .bool false]) ∧ w = w' := by
  go_enter Try.func14, Try.ntmps14
  go_wp2_with (go_at_call 12; refine (refget_any _ _ _ l _ _ _ hr (by omega) hp63).mono ?_; rintro e w' ⟨rfl, rfl⟩)
  go_ret2
  exact ⟨rfl, rfl⟩

theorem refput_yes (a : Option Addr) (len cap : Nat) (l : List Int) (p n : Nat) (v : Int) (w : World) (hr : RdB w a len cap l) (hlen : len ≤ 140737488351000) (hg : getB l p n = true) (hs : okSize n = true) (hp : p + n ≤ len) (hv : 0 ≤ v ∧ v ≤ 18446744073709551615) :
    Calls Try.prog 14 #[.slice a len cap, .int .i64 p, .int .i64 n, .int .u64 v] w fun e w' => ∃ a' c', e = .returned (.tuple #[.slice a' len c', .bool true]) ∧ OwnB 5 w' w.heap.size a' len c' (putL l p n v) ∧ Below w.heap.size w w' := by
  have hn0 := okSize_cases hs
  have hn : n ≤ 8 ∧ 1 ≤ n := by omega
  obtain rfl : l.length = len := hr.len
  have hr1 := hr.2.alloc (.cells #[] 5)
  have ho1 : Own (Value.int .u8) 5 (w.alloc (.cells #[] 5)) w.heap.size (some ⟨w.heap.size, 0, none⟩) 0 0 [] := Own.lit [] _ 0 rfl rfl (Nat.le_refl _) (Nat.zero_le _)
  go_enter Try.func14, Try.ntmps14
  go_wp2_with (first | (go_at_call 12; refine (refget_any _ _ _ l _ _ _ hr (by omega) (by omega)).mono ?_; rintro e w' ⟨rfl, rfl⟩) | (with_reducible refine wpList_cutH rfl rfl Try.oneB rfl rfl hr1 (by omega) (by omega) ?_; intro a2 hr2 hs2) | (at_builtin; go_must (refine wpList_appOwn rfl rfl Try.oneB rfl rfl ho1 hr2 (fun _ => rfl) (by omega) (by omega) (by simp) ?_); intro a3 c3 w3 ho3 hb3 _ _))
  have hbz := hb3.size
  simp only [World.size_alloc] at hbz
  simp only [Nat.zero_add, List.nil_append, Int.toNat_natCast] at ho3
  have hb03 := ((Below.refl w.heap.size w).alloc (Nat.le_refl _) (.cells #[] 5)).trans hb3
  have hr3 := hr.2.mono hb03
  have hd3 := ho3.mono (Below.refl w3.heap.size w3).drew
  have Hd := Lib.hid (digs_length n v)
  have hrs := hr.2.sliced (p + n) l.length (by omega) (Nat.le_refl _)
  rw [List.take_of_length_le (by simp), Nat.mul_one] at hrs
  have hb30 : Below w.heap.size w w3.drew := hb03.drew
  have f1 : IntKind.i64.wrap ((p : Int) + n) = (p : Int) + n := IntWalk.i64_in _ (by omega)
  have f2 : (0 : Int) ≤ (p : Int) + n := by omega
  have f3 : ((p : Int) + n) ≤ (l.length : Int) := by omega
  have f4 : ((p : Int) + n).toNat = p + n := by omega
  go_region_law (first | (go_simp; go_at_call 21; refine (low_any _ _ _ hv (by omega)).mono ?_; rintro e w4 ⟨a4, c4, rfl, ho4, hb4⟩) | (refine step_appOwn rfl rfl Try.oneB rfl rfl (hd3.mono hb4) ho4.2.rd (fun _ => rfl) (by have := Hd.out; omega) (by have := Hd.out; omega) (by have := hb4.size; simp at this; omega) ?_; intro a5 c5 w5 ho5 hb5 _ _) | (refine step_appOwn rfl rfl Try.oneB rfl rfl ho5 (hrs.mono ((hb30.trans (hb4.mono (by simp; omega))).trans hb5)) (fun _ => rfl) (by have := Hd.out; omega) (by have := Hd.out; omega) (by have := hb4.size; have := hb5.size; simp at *; omega) ?_; intro a6 c6 w6 ho6 hb6 _ _))
  clear f1 f2 f3 f4
  go_wp2
  all_goals
    go_ret2
    have hd : p + (digs n v).length + (l.length - (p + n)) = l.length := by have := Hd.out; omega
    have ho7 : Own (Value.int .u8) 5 w6 w.heap.size a6 l.length c6 (putL l p n v) := by
      rw [hd, List.append_assoc] at ho6; exact ho6
    exact ⟨a6, c6, ret_slb hd, ⟨putL_isB _ _ _ _ hr.1, ho7⟩, (hb30.trans (hb4.mono (by simp; omega))).trans (hb5.trans hb6)⟩

theorem refput_any (a : Option Addr) (len cap : Nat) (l : List Int) (p n v : Int) (w : World) (hr : RdB w a len cap l) (hlen : len ≤ 140737488351000) (hp63 : p ≤ 9223372036854775807) (hv : 0 ≤ v ∧ v ≤ 18446744073709551615) :
    Calls Try.prog 14 #[.slice a len cap, .int .i64 p, .int .i64 n, .int .u64 v] w
      fun e w' => ∃ a' c', e = .returned (.tuple #[.slice a' (putV l p n v).length c', .bool (getB l p n)]) ∧ OwnB 5 w' w.heap.size a' (putV l p n v).length c' (putV l p n v) ∧ Below w.heap.size w w' := by
  have hl := hr.len
  unfold putV
  by_cases hg : getB l p n = true
  · have h := hg
    simp only [getB, Bool.and_eq_true, decide_eq_true_eq] at h
    obtain ⟨⟨hs, h0⟩, h1⟩ := h
    rw [if_pos hg]
    obtain ⟨P, rfl⟩ := Int.eq_ofNat_of_zero_le h0
    have hn : n = 1 ∨ n = 2 ∨ n = 4 ∨ n = 8 := okSize_cases hs
    obtain ⟨N, rfl⟩ := Int.eq_ofNat_of_zero_le (show 0 ≤ n by omega)
    simp only [Int.toNat_natCast]
    rw [putL_length l P N v (by omega), hl, hg]
    exact refput_yes a len cap l P N v w hr hlen hg hs (by omega) hv
  · have hg' : getB l p n = false := by simpa using hg
    rw [if_neg hg, hg']
    refine (refput_no a len cap l p n v w hr hlen hp63 hg').mono ?_
    rintro e w' ⟨rfl, rfl⟩
    exact ⟨none, 0, rfl, ⟨IsB.nil, Own.nil _ _ _ _⟩, Below.refl _ _⟩

end Go.Proofs.Ytjmhllifoeidbaa
