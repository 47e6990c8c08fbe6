/- Contracts and plain laws that this claim uses, each with its conditions as premises. -/
import Derived.Test.YtpkmdnfkeebgbaaJm1
import Derived.Test.YtpkmdnfkeebgbaaJm2
import Derived.Deep.CutBlock
import Derived.Lib.ConvBytes
import Derived.Test.YtpkmdnfkeebgbaaJm4
import Derived.Test.YtpkmdnfkeebgbaaJm3
/- What Number computes: a number brought below another one. Conditions stand as premises. -/
namespace Go.Proofs.Ytpkmdnfkeebgbaa
open Go.ChangeShapes Go.WideShapes Go.ChangeAt Go.RowKit
set_option linter.unusedVariables false

/-! ### Number -/
theorem number_low (n b : Int) (h : b < 1) (w : World) :
    Calls Try.prog 18 #[.int .i64 n, .int .i64 b] w fun e w' => e = .returned (.int .i64 0) ∧ w = w' := by
  go_enter Try.func18, Try.ntmps18
  go_wp2
  go_ret
  exact ⟨rfl, rfl⟩

theorem tmod_bd (n b : Int) (h : 1 ≤ b) : -b < n.tmod b ∧ n.tmod b < b := by
  have h1 := Int.tmod_lt_of_pos n (show 0 < b by omega)
  have h2 := Int.lt_tmod_of_pos n (show 0 < b by omega)
  omega
theorem tmod_fix (n b : Int) (h : 1 ≤ b) : (n.tmod b + b) % b = n % b := by
  rw [Int.add_emod_right]
  have h3 := Int.mul_tdiv_add_tmod n b
  conv => rhs; rw [← h3]
  rw [Int.mul_add_emod_self_left]

theorem number_yes (n b : Int) (h : 1 ≤ b) (h2 : b ≤ 4000000000000000000) (w : World) :
    Calls Try.prog 18 #[.int .i64 n, .int .i64 b] w fun e w' => e = .returned (.int .i64 (n % b)) ∧ w = w' := by
  have h3 := tmod_bd n b h
  have H := Lib.hid (tmod_fix n b h)
  go_enter Try.func18, Try.ntmps18
  go_wp2
  go_ret
  exact ⟨ret_int H.out, rfl⟩

theorem number_nat (n b : Int) (k : Nat) (hk : n % b = k) (h : 1 ≤ b) (h2 : b ≤ 4000000000000000000) (w : World) :
    Calls Try.prog 18 #[.int .i64 n, .int .i64 b] w fun e w' => e = .returned (.int .i64 k) ∧ w = w' := by
  have := number_yes n b h h2 w
  rwa [hk] at this

theorem number_int (n b k : Int) (hk : n % b = k) (h : 1 ≤ b) (h2 : b ≤ 4000000000000000000) (w : World) :
    Calls Try.prog 18 #[.int .i64 n, .int .i64 b] w fun e w' => e = .returned (.int .i64 k) ∧ w = w' := by
  have := number_yes n b h h2 w
  rwa [hk] at this

theorem mod_int (n b : Int) (h : 1 ≤ b) : ∃ k : Int, n % b = k ∧ 0 ≤ k ∧ k < b :=
  ⟨_, rfl, Int.emod_nonneg n (by omega), Int.emod_lt_of_pos n (by omega)⟩

theorem mod_nat (n b : Int) (h : 1 ≤ b) : ∃ k : Nat, n % b = k ∧ (k : Int) < b := by
  obtain ⟨k, hk⟩ := Int.eq_ofNat_of_zero_le (Int.emod_nonneg n (show b ≠ 0 by omega))
  exact ⟨k, hk, by have := Int.emod_lt_of_pos n (show 0 < b by omega); omega⟩

end Go.Proofs.Ytpkmdnfkeebgbaa

/- What the makers' Seq, Names, Values, ID, Pair compute, loosely: something that may be. Conditions stand as premises. -/
namespace Go.Proofs.Ytpkmdnfkeebgbaa
open Go.ChangeShapes Go.WideShapes Go.ChangeAt Go.RowKit
set_option linter.unusedVariables false
set_option linter.unusedSimpArgs false

def I64 (v : Int) : Prop := -9223372036854775808 ≤ v ∧ v ≤ 9223372036854775807
/-- Numbers that are told one by one lie at Q; the numbers below B. -/
def QS (B Q : Nat) (w : World) : Prop := ∃ (a : Option Addr) (n c : Nat) (L : List Int) (p : Nat), w.heap[Q]? = some (.cells #[.slice a n c, .int .i64 (p : Int)] 74 (0, 0)) ∧ Rd (Value.int .i64) w a n c L ∧ (∀ x ∈ L, I64 x) ∧ p ≤ n ∧ n ≤ 1000 ∧ (∀ x, a = some x → 0 < n → x.block < B) ∧ B ≤ Q
theorem Rd.belowP {α : Type} {enc : α → Value} {w w' : World} {a : Option Addr} {n c : Nat} {l : List α} {B : Nat} (h : Rd enc w a n c l) (hb : Below B w w') (hB : ∀ x, a = some x → 0 < n → x.block < B) : Rd enc w' a n c l := by
  by_cases h0 : n = 0
  · exact ⟨h.1, h.2.1, h.2.2.1, h.2.2.2.1, .inl h0⟩
  · exact h.below hb (fun x hx => hB x hx (by omega))
theorem Rd.updP {α : Type} {enc : α → Value} {F : Nat → Prop} {w w' : World} {a : Option Addr} {n c : Nat} {l : List α} (h : Rd enc w a n c l) (hu : Upd F w w') (hB : ∀ x, a = some x → 0 < n → ¬ F x.block) : Rd enc w' a n c l := by
  by_cases h0 : n = 0
  · exact ⟨h.1, h.2.1, h.2.2.1, h.2.2.2.1, .inl h0⟩
  · exact h.upd hu (fun x hx => hB x hx (by omega))
theorem QS.below {B Q C : Nat} {w w' : World} (h : QS B Q w) (hb : Below C w w') (hC : Q < C) : QS B Q w' := by
  obtain ⟨a, n, c, L, p, h1, h2, h3, h4, h5, h6, h7⟩ := h
  exact ⟨a, n, c, L, p, row_below hb hC h1, h2.belowP hb (fun x hx hn => by have := h6 x hx hn; omega), h3, h4, h5, h6, h7⟩
theorem QS.lt {B Q : Nat} {w : World} (h : QS B Q w) : Q < w.heap.size := by
  obtain ⟨a, n, c, L, p, h1, _⟩ := h
  exact lt_of_heap h1
/-- The answer of Seq's N. -/
def SeqE (B Q b : Nat) (w : World) (e : Ending) (w' : World) : Prop := ∃ k : Nat, e = .returned (.int .i64 (k : Int)) ∧ k < b ∧ QS B Q w' ∧ Upd (· = Q) w w'

set_option maxRecDepth 100000 in
set_option maxHeartbeats 2000000 in
theorem seqn_any (B Q b : Nat) (hb : 1 ≤ b) (hb2 : b ≤ 1000000) (w : World) (hq : QS B Q w) :
    Calls Try.prog 41 #[.pointer (some ⟨Q, 0, none⟩), .int .i64 (b : Int)] w (SeqE B Q b w) := by
  have hq0 := hq
  obtain ⟨a, n, c, L, p, hX, hr, hL, hp, hn, hab, hBQ⟩ := hq
  have i0 := cell_of_heap hX 0 (.slice a n c) rfl
  have i1 := cell_of_heap hX 1 (.int .i64 (p : Int)) rfl
  have f1 := free_of_heap hX 1
  have HX := Lib.hid hX
  have HQ0 := Lib.hid hq0
  clear hX hq0
  by_cases hlt : n ≤ p
  · have hd : decide ((n : Int) ≤ (p : Int)) = true := by simp; omega
    have hd2 : (n : Int) ≤ (p : Int) := by omega
    go_enter Try.func41, Try.ntmps41
    go_upto_region 1 with fail
    go_region
    go_wp2_with fail
    go_ret
    exact ⟨0, rfl, by omega, HQ0.out.below (below_drew w) HQ0.out.lt, (Upd.refl _ _).drew⟩
  · have hd : decide ((n : Int) ≤ (p : Int)) = false := by simp; omega
    have hd2 : ¬ (n : Int) ≤ (p : Int) := by omega
    have hwp : IntKind.i64.wrap ((p : Int) + 1) = (p : Int) + 1 := by rw [IntKind.wrap_i64]; omega
    have hwp2 : IntKind.i64.wrap (p : Int) = (p : Int) := by rw [IntKind.wrap_i64]; omega
    obtain ⟨bb, off, rfl, hbk, hcs⟩ := hr.at (by omega)
    have hLn := hr.1
    obtain ⟨v, hv⟩ : ∃ v, L[p]? = some v := ⟨_, List.getElem?_eq_getElem (by omega)⟩
    have hc := hcs p v hv
    obtain ⟨v0, v1⟩ := hL v (List.mem_of_getElem? hv)
    have hbQ : bb < Q := by have := hab _ rfl (by omega); simp at this; omega
    obtain ⟨k, hk, hkb⟩ := mod_nat v (b : Int) (by omega)
    have HN := Lib.hid (fun w => number_nat v (b : Int) k hk (by omega) (by omega) w)
    have HX2 := Lib.hid (row_set HX.out 1 (.int .i64 ((p : Int) + 1)))
    have HU2 := Lib.hid (Upd.setCell (F := (· = Q)) w ⟨Q, 1, none⟩ (.int .i64 ((p : Int) + 1)) rfl)
    have hp0 : (0 : Int) ≤ (p : Int) := by omega
    have hp1 : (p : Int) < (n : Int) := by omega
    clear hv hcs
    go_enter Try.func41, Try.ntmps41
    go_upto_region 1 with fail
    go_region
    go_upto_region 4 with fail
    have hC : (w.drew.setCell ⟨Q, 1, none⟩ (.int .i64 ((p : Int) + 1))).drew.heap[Q]? = some (.cells #[.slice (some ⟨bb, off, none⟩) n c, .int .i64 ((p : Int) + 1)] 74 (0, 0)) ∧ (w.drew.setCell ⟨Q, 1, none⟩ (.int .i64 ((p : Int) + 1))).drew.cell? ⟨bb, off + p, none⟩ = some (.int .i64 v) := ⟨HX2.out, ucell HU2.out (show ¬ bb = Q by omega) hc⟩
    refine wp_region_held (S := fun w' => w'.heap[Q]? = some (.cells #[.slice (some ⟨bb, off, none⟩) n c, .int .i64 ((p : Int) + 1)] 74 (0, 0)) ∧ w'.cell? ⟨bb, off + p, none⟩ = some (.int .i64 v)) (by kernel_rfl) ?_
    change wpAnyH _ _ _ _ _ _ _ _ ((w.setCell ⟨Q, 1, none⟩ (.int .i64 ((p : Int) + 1))).drew).drew
    have hC2 : ((w.setCell ⟨Q, 1, none⟩ (.int .i64 ((p : Int) + 1))).drew).drew.heap[Q]? = some (.cells #[.slice (some ⟨bb, off, none⟩) n c, .int .i64 ((p : Int) + 1)] 74 (0, 0)) ∧ ((w.setCell ⟨Q, 1, none⟩ (.int .i64 ((p : Int) + 1))).drew).drew.cell? ⟨bb, off + p, none⟩ = some (.int .i64 v) := hC
    have HU4 := Lib.hid (show Upd (· = Q) w ((w.setCell ⟨Q, 1, none⟩ (.int .i64 ((p : Int) + 1))).drew).drew from HU2.out.drew.drew)
    generalize ((w.setCell ⟨Q, 1, none⟩ (.int .i64 ((p : Int) + 1))).drew).drew = w2 at hC2 HU4 ⊢
    clear hC
    refine held_take 0 (d := some 22) (v := (.pointer (some ⟨Q, 0, none⟩))) rfl rfl (by kernel_rfl) (by kernel_rfl) (by kernel_rfl) (fun _ _ _ h => h) hC2 (by kernel_rfl) (fun w hSw => by have x0 := cell_of_heap hSw.1 0 (.slice (some ⟨bb, off, none⟩) n c) rfl; have x1 := cell_of_heap hSw.1 1 (.int .i64 ((p : Int) + 1)) rfl; have x2 := hSw.2; clear hSw; go_simp) ?_
    try simp only [Act.put, List.setIfInBounds_toArray, List.set_cons_zero, List.set_cons_succ]
    refine held_take 1 (d := some 23) (v := (.pointer (some ⟨Q, 0, none⟩))) rfl rfl (by kernel_rfl) (by kernel_rfl) (by kernel_rfl) (fun _ _ _ h => h) hC2 (by kernel_rfl) (fun w hSw => by have x0 := cell_of_heap hSw.1 0 (.slice (some ⟨bb, off, none⟩) n c) rfl; have x1 := cell_of_heap hSw.1 1 (.int .i64 ((p : Int) + 1)) rfl; have x2 := hSw.2; clear hSw; go_simp) ?_
    try simp only [Act.put, List.setIfInBounds_toArray, List.set_cons_zero, List.set_cons_succ]
    refine held_take 2 (d := some 24) (v := (.pointer (some ⟨Q, 0, none⟩))) rfl rfl (by kernel_rfl) (by kernel_rfl) (by kernel_rfl) (fun _ _ _ h => h) hC2 (by kernel_rfl) (fun w hSw => by have x0 := cell_of_heap hSw.1 0 (.slice (some ⟨bb, off, none⟩) n c) rfl; have x1 := cell_of_heap hSw.1 1 (.int .i64 ((p : Int) + 1)) rfl; have x2 := hSw.2; clear hSw; go_simp) ?_
    try simp only [Act.put, List.setIfInBounds_toArray, List.set_cons_zero, List.set_cons_succ]
    refine held_take 3 (d := some 25) (v := (.slice (some ⟨bb, off, none⟩) n c)) rfl rfl (by kernel_rfl) (by kernel_rfl) (by kernel_rfl) (fun _ _ _ h => h) hC2 (by kernel_rfl) (fun w hSw => by have x0 := cell_of_heap hSw.1 0 (.slice (some ⟨bb, off, none⟩) n c) rfl; have x1 := cell_of_heap hSw.1 1 (.int .i64 ((p : Int) + 1)) rfl; have x2 := hSw.2; clear hSw; go_simp) ?_
    try simp only [Act.put, List.setIfInBounds_toArray, List.set_cons_zero, List.set_cons_succ]
    refine held_take 4 (d := some 26) (v := (.pointer (some ⟨Q, 0, none⟩))) rfl rfl (by kernel_rfl) (by kernel_rfl) (by kernel_rfl) (fun _ _ _ h => h) hC2 (by kernel_rfl) (fun w hSw => by have x0 := cell_of_heap hSw.1 0 (.slice (some ⟨bb, off, none⟩) n c) rfl; have x1 := cell_of_heap hSw.1 1 (.int .i64 ((p : Int) + 1)) rfl; have x2 := hSw.2; clear hSw; go_simp) ?_
    try simp only [Act.put, List.setIfInBounds_toArray, List.set_cons_zero, List.set_cons_succ]
    refine held_take 5 (d := some 27) (v := (.pointer (some ⟨Q, 0, none⟩))) rfl rfl (by kernel_rfl) (by kernel_rfl) (by kernel_rfl) (fun _ _ _ h => h) hC2 (by kernel_rfl) (fun w hSw => by have x0 := cell_of_heap hSw.1 0 (.slice (some ⟨bb, off, none⟩) n c) rfl; have x1 := cell_of_heap hSw.1 1 (.int .i64 ((p : Int) + 1)) rfl; have x2 := hSw.2; clear hSw; go_simp) ?_
    try simp only [Act.put, List.setIfInBounds_toArray, List.set_cons_zero, List.set_cons_succ]
    refine held_take 6 (d := some 28) (v := (.pointer (some ⟨Q, 1, none⟩))) rfl rfl (by kernel_rfl) (by kernel_rfl) (by kernel_rfl) (fun _ _ _ h => h) hC2 (by kernel_rfl) (fun w hSw => by have x0 := cell_of_heap hSw.1 0 (.slice (some ⟨bb, off, none⟩) n c) rfl; have x1 := cell_of_heap hSw.1 1 (.int .i64 ((p : Int) + 1)) rfl; have x2 := hSw.2; clear hSw; go_simp) ?_
    try simp only [Act.put, List.setIfInBounds_toArray, List.set_cons_zero, List.set_cons_succ]
    refine held_take 7 (d := some 29) (v := (.int .i64 ((p : Int) + 1))) rfl rfl (by kernel_rfl) (by kernel_rfl) (by kernel_rfl) (fun _ _ _ h => h) hC2 (by kernel_rfl) (fun w hSw => by have x0 := cell_of_heap hSw.1 0 (.slice (some ⟨bb, off, none⟩) n c) rfl; have x1 := cell_of_heap hSw.1 1 (.int .i64 ((p : Int) + 1)) rfl; have x2 := hSw.2; clear hSw; go_simp) ?_
    try simp only [Act.put, List.setIfInBounds_toArray, List.set_cons_zero, List.set_cons_succ]
    refine held_take 8 (d := some 30) (v := (.int .i64 (p : Int))) rfl rfl (by kernel_rfl) (by kernel_rfl) (by kernel_rfl) (fun _ _ _ h => h) hC2 (by kernel_rfl) (fun w hSw => by clear hSw; go_simp) ?_
    try simp only [Act.put, List.setIfInBounds_toArray, List.set_cons_zero, List.set_cons_succ]
    refine held_take 9 (d := some 31) (v := (.pointer (some ⟨bb, off + p, none⟩))) rfl rfl (by kernel_rfl) (by kernel_rfl) (by kernel_rfl) (fun _ _ _ h => h) hC2 (by kernel_rfl) (fun w hSw => by have x0 := cell_of_heap hSw.1 0 (.slice (some ⟨bb, off, none⟩) n c) rfl; have x1 := cell_of_heap hSw.1 1 (.int .i64 ((p : Int) + 1)) rfl; have x2 := hSw.2; clear hSw; go_simp) ?_
    try simp only [Act.put, List.setIfInBounds_toArray, List.set_cons_zero, List.set_cons_succ]
    refine held_take 10 (d := some 32) (v := (.int .i64 v)) rfl rfl (by kernel_rfl) (by kernel_rfl) (by kernel_rfl) (fun _ _ _ h => h) hC2 (by kernel_rfl) (fun w hSw => by have x0 := cell_of_heap hSw.1 0 (.slice (some ⟨bb, off, none⟩) n c) rfl; have x1 := cell_of_heap hSw.1 1 (.int .i64 ((p : Int) + 1)) rfl; have x2 := hSw.2; clear hSw; go_simp) ?_
    try simp only [Act.put, List.setIfInBounds_toArray, List.set_cons_zero, List.set_cons_succ]
    refine held_take 11 (d := some 33) (v := (.int .i64 (b : Int))) rfl rfl (by kernel_rfl) (by kernel_rfl) (by kernel_rfl) (fun _ _ _ h => h) hC2 (by kernel_rfl) (fun w hSw => by have x0 := cell_of_heap hSw.1 0 (.slice (some ⟨bb, off, none⟩) n c) rfl; have x1 := cell_of_heap hSw.1 1 (.int .i64 ((p : Int) + 1)) rfl; have x2 := hSw.2; clear hSw; go_simp) ?_
    try simp only [Act.put, List.setIfInBounds_toArray, List.set_cons_zero, List.set_cons_succ]
    refine held_one 12 rfl (by kernel_rfl) (fun K hK => ?_)
    go_simp
    go_at_call 18
    refine (HN.out _).mono ?_
    rintro e w3 ⟨rfl, hw⟩
    subst hw
    go_simp
    refine hK _ _ hC2 ?_
    clear hK K
    try simp only [Act.put, List.setIfInBounds_toArray, List.set_cons_zero, List.set_cons_succ]
    refine held_take 13 (d := some 4) (v := (.int .i64 (k : Int))) rfl rfl (by kernel_rfl) (by kernel_rfl) (by kernel_rfl) (fun _ _ _ h => h) hC2 (by kernel_rfl) (fun w hSw => by clear hSw; go_simp) ?_
    try simp only [Act.put, List.setIfInBounds_toArray, List.set_cons_zero, List.set_cons_succ]
    refine wpAnyH_done (by kernel_rfl) ?_ _
    go_wp2_with fail
    go_ret
    exact ⟨k, rfl, by omega, ⟨_, n, c, L, p + 1, hC2.1, hr.updP HU4.out (fun x hx hn => by have := hab x hx hn; omega), hL, by omega, hn, hab, hBQ⟩, HU4.out⟩
def namesL : List ByteArray := [⟨#[65]⟩, ⟨#[66]⟩, ⟨#[77, 69, 83, 83, 65, 71, 69]⟩, ⟨#[95, 80, 73, 68]⟩, ⟨#[88, 95, 49]⟩, ⟨#[80, 82, 73, 79, 82, 73, 84, 89]⟩]
def valuesL : List ByteArray := [⟨#[]⟩, ⟨#[48]⟩, ⟨#[49]⟩, ⟨#[50, 50]⟩, ⟨#[97, 61, 98]⟩, ⟨#[111, 110, 101, 10, 116, 119, 111]⟩, ⟨#[0, 255]⟩, ⟨#[116, 97, 98, 9, 104, 101, 114, 101]⟩, ⟨#[108, 111, 110, 103, 32, 108, 111, 110, 103, 32, 108, 111, 110, 103, 32, 108, 111, 110, 103, 32, 108, 111, 110, 103, 32, 108, 111, 110, 103, 32, 108, 111, 110, 103]⟩, ⟨#[126, 127, 128]⟩]
theorem namesL_size : ∀ x ∈ namesL, x.size ≤ 8 := by decide +kernel
theorem valuesL_size : ∀ x ∈ valuesL, x.size ≤ 40 := by decide +kernel
set_option maxRecDepth 100000 in
theorem names_any (w : World) : Calls Try.prog 70 #[] w fun e w' => e = .returned (.slice (some ⟨w.heap.size, 0, none⟩) 6 6) ∧ Rd Value.string w' (some ⟨w.heap.size, 0, none⟩) 6 6 namesL ∧ Below w.heap.size w w' := by
  go_enter Try.func70, Try.ntmps70
  go_wp2_with fail
  go_ret
  exact ⟨rfl, Rd.lits Value.string _ w namesL _ 6 rfl rfl (by omega), below_alloc w _⟩
set_option maxRecDepth 100000 in
theorem values_any (w : World) : Calls Try.prog 71 #[] w fun e w' => e = .returned (.slice (some ⟨w.heap.size, 0, none⟩) 10 10) ∧ Rd Value.string w' (some ⟨w.heap.size, 0, none⟩) 10 10 valuesL ∧ Below w.heap.size w w' := by
  go_enter Try.func71, Try.ntmps71
  go_wp2_with fail
  go_ret
  exact ⟨rfl, Rd.lits Value.string _ w valuesL _ 10 rfl rfl (by omega), below_alloc w _⟩

theorem more_any (B Q : Nat) (w : World) (hq : QS B Q w) : Calls Try.prog 42 #[.pointer (some ⟨Q, 0, none⟩)] w fun e w' => (∃ b : Bool, e = .returned (.bool b)) ∧ Below w.heap.size w w' := by
  obtain ⟨a, n, c, L, p, hX, hr, hL, hp, hn, hab, hBQ⟩ := hq
  have i0 := cell_of_heap hX 0 (.slice a n c) rfl
  have i1 := cell_of_heap hX 1 (.int .i64 (p : Int)) rfl
  clear hX
  go_enter Try.func42, Try.ntmps42
  go_upto_region 1 with fail
  go_region
  go_wp2_with fail
  go_ret
  exact ⟨⟨_, rfl⟩, below_drew w⟩

def idK (k : Int) : List Int := [94, 0, 0, 0, 0, 0, 0, 0, 0, 0, 0, 0, 0, 0, 0, k]
set_option maxRecDepth 100000 in
set_option maxHeartbeats 1000000 in
theorem id_lo (n : Int) (hn : I64 n) (w : World) : Calls Try.prog 46 #[.int .i64 n] w fun e w' => ∃ I : List Int, e = .returned (.agg (I.map (Value.int .u8)).toArray) ∧ IsB I ∧ I.length = 16 ∧ Below w.heap.size w w' := by
  obtain ⟨k, hk, hkb⟩ := mod_nat n 5 (by omega)
  have HN := Lib.hid (fun w => number_nat n 5 k hk (by omega) (by omega) w)
  have hw : IntKind.u8.wrap (k : Int) = (k : Int) := by rw [IntKind.wrap_u8]; omega
  clear hk
  go_enter Try.func46, Try.ntmps46
  go_upto_region 1 with fail
  have hR1 := heap_alloc_new w (.cells #[Value.int .u8 0, Value.int .u8 0, Value.int .u8 0, Value.int .u8 0, Value.int .u8 0, Value.int .u8 0, Value.int .u8 0, Value.int .u8 0, Value.int .u8 0, Value.int .u8 0, Value.int .u8 0, Value.int .u8 0, Value.int .u8 0, Value.int .u8 0, Value.int .u8 0, Value.int .u8 0] 26)
  have HB1 := Lib.hid (below_alloc w (.cells #[Value.int .u8 0, Value.int .u8 0, Value.int .u8 0, Value.int .u8 0, Value.int .u8 0, Value.int .u8 0, Value.int .u8 0, Value.int .u8 0, Value.int .u8 0, Value.int .u8 0, Value.int .u8 0, Value.int .u8 0, Value.int .u8 0, Value.int .u8 0, Value.int .u8 0, Value.int .u8 0] 26))
  generalize w.alloc (.cells #[Value.int .u8 0, Value.int .u8 0, Value.int .u8 0, Value.int .u8 0, Value.int .u8 0, Value.int .u8 0, Value.int .u8 0, Value.int .u8 0, Value.int .u8 0, Value.int .u8 0, Value.int .u8 0, Value.int .u8 0, Value.int .u8 0, Value.int .u8 0, Value.int .u8 0, Value.int .u8 0] 26) = w1 at hR1 HB1 ⊢
  go_upto_region 2 with fail
  have hO2 := heap_alloc_new w1 (.cells #[Value.int .u8 0, Value.int .u8 0, Value.int .u8 0, Value.int .u8 0, Value.int .u8 0, Value.int .u8 0, Value.int .u8 0, Value.int .u8 0, Value.int .u8 0, Value.int .u8 0, Value.int .u8 0, Value.int .u8 0, Value.int .u8 0, Value.int .u8 0, Value.int .u8 0, Value.int .u8 0] 26)
  have HR2 := Lib.hid (row_below (below_alloc w1 (.cells #[Value.int .u8 0, Value.int .u8 0, Value.int .u8 0, Value.int .u8 0, Value.int .u8 0, Value.int .u8 0, Value.int .u8 0, Value.int .u8 0, Value.int .u8 0, Value.int .u8 0, Value.int .u8 0, Value.int .u8 0, Value.int .u8 0, Value.int .u8 0, Value.int .u8 0, Value.int .u8 0] 26)) (lt_of_heap hR1) hR1)
  have HB2 := Lib.hid (HB1.out.alloc HB1.out.size (.cells #[Value.int .u8 0, Value.int .u8 0, Value.int .u8 0, Value.int .u8 0, Value.int .u8 0, Value.int .u8 0, Value.int .u8 0, Value.int .u8 0, Value.int .u8 0, Value.int .u8 0, Value.int .u8 0, Value.int .u8 0, Value.int .u8 0, Value.int .u8 0, Value.int .u8 0, Value.int .u8 0] 26))
  generalize w1.alloc (.cells #[Value.int .u8 0, Value.int .u8 0, Value.int .u8 0, Value.int .u8 0, Value.int .u8 0, Value.int .u8 0, Value.int .u8 0, Value.int .u8 0, Value.int .u8 0, Value.int .u8 0, Value.int .u8 0, Value.int .u8 0, Value.int .u8 0, Value.int .u8 0, Value.int .u8 0, Value.int .u8 0] 26) = w2 at hO2 HR2 HB2 ⊢
  obtain ⟨R, hR⟩ : ∃ R, w.heap.size = R := ⟨_, rfl⟩
  have HRR := Lib.hid hR
  obtain ⟨O, hO⟩ : ∃ O, w1.heap.size = O := ⟨_, rfl⟩
  have hlt1 := lt_of_heap hR1
  rw [hO] at hO2 ⊢
  rw [hR] at HR2 ⊢
  have hRO : R < O := by omega
  have i0 := cell_of_heap hO2 0 (.int .u8 0) rfl
  have i15 := cell_of_heap hO2 15 (.int .u8 0) rfl
  have f0 := free_of_heap hO2 0
  have f15 := free_of_heap hO2 15
  have HO3 := Lib.hid (show ((w2.setCell ⟨O, 0, none⟩ (.int .u8 94)).setCell ⟨O, 15, none⟩ (.int .u8 (k : Int))).heap[O]? = some (.cells ((idK k).map (Value.int .u8)).toArray 26 (0, 0)) from row_set (row_set hO2 0 (.int .u8 94)) 15 (.int .u8 (k : Int)))
  have HU3 := Lib.hid ((Upd.setCell (F := (· = O)) w2 ⟨O, 0, none⟩ (.int .u8 94) rfl).trans (Upd.setCell (F := (· = O)) _ ⟨O, 15, none⟩ (.int .u8 (k : Int)) rfl) (fun _ _ h => h))
  clear hR1 hO2 hR hO hlt1
  go_upto_region 3 with (go_at_call 18; refine (HN.out _).mono ?_; rintro e wn ⟨rfl, hwn⟩; subst hwn)
  generalize (w2.setCell ⟨O, 0, none⟩ (.int .u8 94)).setCell ⟨O, 15, none⟩ (.int .u8 (k : Int)) = w3 at HO3 HU3 ⊢
  have HR3 := Lib.hid (row_upd HU3.out (by omega) HR2.out)
  have HB3 := Lib.hid (HB2.out.trans (HU3.out.below (B := w.heap.size) HB2.out.size (fun j hj => by have := HRR.out; omega)))
  clear i0 i15 f0 f15
  go_wp2_with (first
    | (with_reducible refine wpList_loadS rfl rfl Try.idI rfl HO3.out (by with_unfolding_all rfl) ?_)
    | (with_reducible refine wpList_storeS rfl rfl Try.idI rfl rfl HR3.out (by with_unfolding_all rfl) (by with_unfolding_all rfl) (bytes_one (idK k)) ?_; intro w4 hX4 hu4))
  have HB4 := Lib.hid (HB3.out.trans (hu4.below HB3.out.size (fun j hj => by have := HRR.out; omega)))
  refine bodyPost_ret (v := .agg ((idK k).map (Value.int .u8)).toArray) (results_S rfl Try.idI rfl hX4.out (by with_unfolding_all rfl)) rfl ?_
  exact ⟨idK k, rfl, by unfold idK IsB; simp; omega, rfl, HB4.out⟩

/-- A pair that may be. -/
def pairV (a b : ByteArray) : List Value := [.string a, .string b]
theorem pairE : EncK (fun p : ByteArray × ByteArray => pairV p.1 p.2) 2 := ⟨fun _ => rfl, fun x v hv => by simp [pairV] at hv; rcases hv with rfl | rfl <;> rfl, by omega⟩
def PairOK (p : ByteArray × ByteArray) : Prop := p.1.size ≤ 8 ∧ p.2.size ≤ 40
theorem Try.pairI : RowInfo Try.prog 108 2 := ⟨by kernel_rfl, by kernel_rfl⟩
theorem Try.builtPair (a b : ByteArray) : Try.prog.built 108 [(0, .string a), (1, .string b)] = some #[.string a, .string b] := by kernel_rfl
set_option maxRecDepth 100000 in
set_option maxHeartbeats 2000000 in
theorem pair_lo (B Q : Nat) (w : World) (hq : QS B Q w) : Calls Try.prog 61 #[.pointer (some ⟨Q, 0, none⟩)] w fun e w' => ∃ x y, e = .returned (.agg #[.string x, .string y]) ∧ PairOK (x, y) ∧ QS B Q w' ∧ Upd (· = Q) w w' := by
  have HQ := Lib.hid hq
  clear hq
  go_enter Try.func61, Try.ntmps61
  go_upto_region 1 with fail
  have hX1 := heap_alloc_new w (.cells #[Value.string { data := #[] }, Value.string { data := #[] }] 108)
  have HB1 := Lib.hid (below_alloc w (.cells #[Value.string { data := #[] }, Value.string { data := #[] }] 108))
  obtain ⟨R, hR⟩ : ∃ R, w.heap.size = R := ⟨_, rfl⟩
  have HRR := Lib.hid hR
  rw [hR] at hX1 ⊢
  clear hR
  refine wp_region_any (by kernel_rfl) ?_
  change wpAny _ _ _ _ _ _ _ (w.alloc (.cells #[Value.string { data := #[] }, Value.string { data := #[] }] 108)).drew
  have HBd := Lib.hid HB1.out.drew
  have HXd := Lib.hid (show (w.alloc (.cells #[Value.string { data := #[] }, Value.string { data := #[] }] 108)).drew.heap[R]? = _ from hX1)
  generalize (w.alloc (.cells #[Value.string { data := #[] }, Value.string { data := #[] }] 108)).drew = wd at HBd HXd ⊢
  have HQd := Lib.hid (HQ.out.below HBd.out HQ.out.lt)
  have hQR : Q < R := by have := HQ.out.lt; have := HRR.out; omega
  clear hX1 HB1 HQ
  refine any_take 1 (d := some 4) (v := (.pointer (some ⟨Q, 0, none⟩))) rfl rfl (by kernel_rfl) (by kernel_rfl) (by kernel_rfl) (fun _ _ _ h => h) (by kernel_rfl) (fun w => by go_simp) ?_
  try simp only [Act.put, List.setIfInBounds_toArray, List.set_cons_zero, List.set_cons_succ]
  refine any_take 6 (d := some 9) (v := (.pointer (some ⟨Q, 0, none⟩))) rfl rfl (by kernel_rfl) (by kernel_rfl) (by kernel_rfl) (fun _ _ _ h => h) (by kernel_rfl) (fun w => by go_simp) ?_
  try simp only [Act.put, List.setIfInBounds_toArray, List.set_cons_zero, List.set_cons_succ]
  refine any_one 0 rfl (by kernel_rfl) (fun K hK => ?_)
  go_simp
  go_at_call 70
  refine (names_any _).mono ?_
  rintro e w2 ⟨rfl, hr2, hb2⟩
  have HQ2 := Lib.hid (HQd.out.below hb2 HQd.out.lt)
  have HX2 := Lib.hid (row_below hb2 (lt_of_heap HXd.out) HXd.out)
  have HU2 := Lib.hid ((Upd.ofBelow (F := (· = Q)) (HBd.out.mono (Nat.le_refl _))).trans (Upd.ofBelow (F := (· = Q)) hb2) (fun _ _ h => h))
  have HR2 := Lib.hid hr2
  have hA1 : Q < wd.heap.size := HQd.out.lt
  have hRA : R < wd.heap.size := lt_of_heap HXd.out
  obtain ⟨A1, hA⟩ : ∃ A1, wd.heap.size = A1 := ⟨_, rfl⟩
  rw [hA] at HR2 hA1 hRA ⊢
  clear hr2 hb2 hA HQd HXd
  go_simp
  refine hK _ _ ?_
  clear hK K
  try simp only [Act.put, List.setIfInBounds_toArray, List.set_cons_zero, List.set_cons_succ]
  refine any_one 2 rfl (by kernel_rfl) (fun K hK => ?_)
  go_simp
  go_at_call 41
  refine (seqn_any B Q 6 (by omega) (by omega) _ HQ2.out).mono ?_
  rintro e w3 ⟨k, rfl, hk, hq3, hu3⟩
  have HQ3 := Lib.hid hq3
  have HX3 := Lib.hid (row_upd hu3 (by omega) HX2.out)
  have HU3 := Lib.hid (HU2.out.trans hu3 (fun _ _ h => h))
  obtain ⟨b1, o1, hbo, hlt1, hcs1⟩ := (HR2.out.upd hu3 (fun x hx => by cases hx; show A1 ≠ Q; omega)).at (by omega)
  cases hbo
  obtain ⟨s1, hs1⟩ : ∃ s1, namesL[k]? = some s1 := ⟨_, List.getElem?_eq_getElem (by show k < 6; omega)⟩
  have hC := hcs1 k s1 hs1
  rw [Nat.zero_add] at hC
  have HS1 := Lib.hid (namesL_size s1 (List.mem_of_getElem? hs1))
  have hk6 : (k : Int) < 6 := by omega
  have hk0 : (0 : Int) ≤ (k : Int) := by omega
  have hA3 : A1 < w3.heap.size := hlt1
  clear hq3 hu3 hcs1 hs1 HR2 HU2 HX2 HQ2
  go_simp
  refine hK _ _ ?_
  clear hK K
  try simp only [Act.put, List.setIfInBounds_toArray, List.set_cons_zero, List.set_cons_succ]
  refine wpAny_of_held (S := fun w' => w'.cell? ⟨A1, k, none⟩ = some (.string s1)) _ _ _ _ ?_
  refine held_take 3 (d := some 6) (v := (.pointer (some ⟨A1, k, none⟩))) rfl rfl (by kernel_rfl) (by kernel_rfl) (by kernel_rfl) (fun _ _ _ h => h) hC (by kernel_rfl) (fun w hSw => by have x0 := hSw; clear hSw; go_simp) ?_
  try simp only [Act.put, List.setIfInBounds_toArray, List.set_cons_zero, List.set_cons_succ]
  refine held_take 4 (d := some 7) (v := (.string s1)) rfl rfl (by kernel_rfl) (by kernel_rfl) (by kernel_rfl) (fun _ _ _ h => h) hC (by kernel_rfl) (fun w hSw => by have x0 := hSw; clear hSw; go_simp) ?_
  try simp only [Act.put, List.setIfInBounds_toArray, List.set_cons_zero, List.set_cons_succ]
  refine held_one 5 rfl (by kernel_rfl) (fun K hK => ?_)
  go_simp
  go_at_call 71
  refine (values_any _).mono ?_
  rintro e w4 ⟨rfl, hr4, hb4⟩
  have HQ4 := Lib.hid (HQ3.out.below hb4 HQ3.out.lt)
  have HX4 := Lib.hid (row_below hb4 (lt_of_heap HX3.out) HX3.out)
  have HU4 := Lib.hid (HU3.out.trans (Upd.ofBelow (F := (· = Q)) hb4) (fun _ _ h => h))
  have HR4 := Lib.hid hr4
  have hC4 := bcell hb4 hA3 hC
  have hA4 : Q < w3.heap.size := HQ3.out.lt
  have hRA4 : R < w3.heap.size := lt_of_heap HX3.out
  obtain ⟨A2, hA⟩ : ∃ A2, w3.heap.size = A2 := ⟨_, rfl⟩
  rw [hA] at HR4 hA4 hRA4 ⊢
  clear hr4 hb4 hC hA HX3 HQ3 HU3
  go_simp
  refine hK _ _ hC4 ?_
  clear hK K
  try simp only [Act.put, List.setIfInBounds_toArray, List.set_cons_zero, List.set_cons_succ]
  refine held_one 7 rfl (by kernel_rfl) (fun K hK => ?_)
  go_simp
  go_at_call 41
  refine (seqn_any B Q 10 (by omega) (by omega) _ HQ4.out).mono ?_
  rintro e w5 ⟨m, rfl, hm, hq5, hu5⟩
  have HQ5 := Lib.hid hq5
  have HX5 := Lib.hid (row_upd hu5 (by omega) HX4.out)
  have HU5 := Lib.hid (HU4.out.trans hu5 (fun _ _ h => h))
  obtain ⟨b2, o2, hbo, hlt2, hcs2⟩ := (HR4.out.upd hu5 (fun x hx => by cases hx; show A2 ≠ Q; omega)).at (by omega)
  cases hbo
  obtain ⟨s2, hs2⟩ : ∃ s2, valuesL[m]? = some s2 := ⟨_, List.getElem?_eq_getElem (by show m < 10; omega)⟩
  have hD := hcs2 m s2 hs2
  rw [Nat.zero_add] at hD
  have HS2 := Lib.hid (valuesL_size s2 (List.mem_of_getElem? hs2))
  have hm6 : (m : Int) < 10 := by omega
  have hm0 : (0 : Int) ≤ (m : Int) := by omega
  have hC5 := ucell hu5 (show ¬ (A1 = Q) by omega) hC4
  clear hq5 hu5 hcs2 hs2 HR4 HU4 HX4 HQ4 hC4
  go_simp
  refine hK _ _ hC5 ?_
  clear hK K
  try simp only [Act.put, List.setIfInBounds_toArray, List.set_cons_zero, List.set_cons_succ]
  refine held_take 8 (d := some 11) (v := (.pointer (some ⟨A2, m, none⟩))) rfl rfl (by kernel_rfl) (by kernel_rfl) (by kernel_rfl) (fun _ _ _ h => h) hC5 (by kernel_rfl) (fun w hSw => by clear hSw; go_simp) ?_
  try simp only [Act.put, List.setIfInBounds_toArray, List.set_cons_zero, List.set_cons_succ]
  refine held_one 9 rfl (by kernel_rfl) (fun K hK => ?_)
  go_simp
  refine hK _ _ hC5 ?_
  clear hK K
  try simp only [Act.put, List.setIfInBounds_toArray, List.set_cons_zero, List.set_cons_succ]
  have HBP := Lib.hid (Try.builtPair s1 s2)
  refine held_take 10 (d := some 13) (v := (.agg #[.string s1, .string s2])) rfl rfl (by kernel_rfl) (by kernel_rfl) (by kernel_rfl) (fun _ _ _ h => h) hC5 (by kernel_rfl) (fun w hSw => by exact exec_buildS rfl (Eq.trans (by kernel_rfl) HBP.out)) ?_
  try simp only [Act.put, List.setIfInBounds_toArray, List.set_cons_zero, List.set_cons_succ]
  refine held_one 11 rfl (by kernel_rfl) (fun K hK => ?_)
  refine step_storeS (cells := #[.string s1, .string s2]) rfl rfl Try.pairI rfl rfl HX5.out (by with_unfolding_all rfl) (by with_unfolding_all rfl) (by with_unfolding_all rfl) ?_
  intro w6 hX6 hu6
  refine hK _ _ (ucell hu6 (show ¬ (A1 = R) by omega) hC5) ?_
  clear hK K
  refine wpAnyH_done (by kernel_rfl) ?_ _
  go_wp2_with fail
  refine bodyPost_ret (v := .agg #[.string s1, .string s2]) (results_S rfl Try.pairI rfl hX6.out rfl) rfl ?_
  have hlast : Upd (· = Q) w w6 := ⟨hu6.os.trans HU5.out.os, hu6.tape.trans HU5.out.tape, hu6.output.trans HU5.out.output, Nat.le_trans HU5.out.size hu6.size, fun j hj hn => (hu6.block j (Nat.lt_of_lt_of_le hj HU5.out.size) (by have := HRR.out; omega)).trans (HU5.out.block j hj hn)⟩
  obtain ⟨a, n, c, L, p, h1, h2, h3, h4, h5, h6, h7⟩ := HQ5.out
  exact ⟨s1, s2, rfl, ⟨HS1.out, HS2.out⟩, ⟨a, n, c, L, p, row_upd hu6 (by omega) h1, h2.updP hu6 (fun x hx hn => by have := h6 x hx hn; omega), h3, h4, h5, h6, h7⟩, hlast⟩
end Go.Proofs.Ytpkmdnfkeebgbaa

/- What the makers' Pairs computes, loosely: some pairs that may be. Conditions stand as premises. -/
namespace Go.Proofs.Ytpkmdnfkeebgbaa
open Go.ChangeShapes Go.WideShapes Go.ChangeAt Go.RowKit
set_option linter.unusedVariables false
set_option linter.unusedSimpArgs false

abbrev PB := ByteArray × ByteArray
def encPB (p : PB) : List Value := pairV p.1 p.2
theorem encPB_E : EncK encPB 2 := pairE
theorem Try.pairInf : (Try.prog.info? 108).map (fun i => (i.zero, i.size, i.bytes)) = some (some (.agg #[.string ⟨#[]⟩, .string ⟨#[]⟩]), 2, 32) := by kernel_rfl
theorem Try.pairK : InfoK Try.prog 87 108 2 32 := by
  obtain ⟨i, hi, h0, h1, h2⟩ := info_parts Try.pairInf
  exact ⟨Try.underlying87, i, _, hi, h0, h1, h2, rfl⟩
/-- Some pairs. -/
def PairsE (B Q most : Nat) (w : World) (e : Ending) (w' : World) : Prop :=
  ∃ (a : Option Addr) (c : Nat) (L : List PB), e = .returned (.slice a L.length c) ∧ OwnK encPB 2 108 w' w.heap.size a L.length c L ∧ L.length ≤ most ∧ (∀ p ∈ L, PairOK p) ∧ QS B Q w' ∧ Upd (· = Q) w w'

set_option maxRecDepth 100000 in
set_option maxHeartbeats 2000000 in
theorem pairs_lo (B Q most : Nat) (hm : 1 ≤ most) (hm2 : most ≤ 100) (w : World) (hq : QS B Q w) : Calls Try.prog 49 #[.pointer (some ⟨Q, 0, none⟩), .int .i64 (most : Int)] w (PairsE B Q most w) := by
  have HQ := Lib.hid hq
  clear hq
  go_enter Try.func49, Try.ntmps49
  go_wp2_with (go_at_call 41; refine (seqn_any B Q most hm (by omega) _ HQ.out).mono ?_; rintro e w1 ⟨k, rfl, hk, hq1, hu1⟩)
  have HQ1 := Lib.hid hq1
  have HU1 := Lib.hid hu1
  clear hq1 hu1
  go_loopw [5, 6] (fun s_ i wr => ∃ (j : Nat) (a : Option Addr) (c : Nat) (L : List PB), s_ = .slice a L.length c ∧ i = .int .i64 (j : Int) ∧ L.length + j ≤ most ∧ OwnK encPB 2 108 wr w.heap.size a L.length c L ∧ (∀ p ∈ L, PairOK p) ∧ QS B Q wr ∧ Upd (· = Q) w wr) (fun _ i _ => (intOf i).toNat)
  case atStart => exact ⟨k + 1, none, 0, [], rfl, by congr 1, by simp; omega, OwnK.nil _ _ _ _ _, (fun p hp => by cases hp), HQ1.out, HU1.out⟩
  case round =>
    obtain ⟨j, a, c, L, rfl, rfl, hj, ho, hL, hq, hu⟩ := hrel
    have HO := Lib.hid ho
    have HL := Lib.hid hL
    have HQr := Lib.hid hq
    have HUr := Lib.hid hu
    have hQlt : Q < w.heap.size := HQ.out.lt
    clear ho hL hq hu
    by_cases hlt : 0 < j
    · have hlt' : (0 : Int) < (j : Int) := by omega
      have hd : decide ((0 : Int) < (j : Int)) = true := by simp; omega
      go_upto_region 5 with fail
      go_upto_region 4 with (first
        | (go_at_call 61; refine (pair_lo B Q _ HQr.out).mono ?_; rintro e w2 ⟨x, y, rfl, hp, hq2, hu2⟩; have HP := Lib.hid hp; have HQ2 := Lib.hid hq2; have HU2 := Lib.hid (HUr.out.trans hu2 (fun _ _ h => h)); have HO2 := Lib.hid (HO.out.upd hu2 (fun z hz => by have := (HO.out.lt z hz).1; omega)); clear hp hq2 hu2; have HB2 := Lib.hid (below_alloc w2 (.cells #[.string x, .string y] 108)); have HO3 := Lib.hid (HO2.out.mono HB2.out); have HR3 := Lib.hid (RdK.one encPB_E 108 w2 (x, y) #[.string x, .string y] rfl); have HQ3 := Lib.hid (HQ2.out.below HB2.out HQ2.out.lt); have HU3 := Lib.hid (HU2.out.trans (Upd.ofBelow (F := (· = Q)) HB2.out) (fun _ _ h => h)); have hz3 := HU3.out.size)
        | (at_builtin; go_must (refine wpList_appK encPB_E rfl rfl Try.pairK rfl rfl HO3.out HR3.out (by omega) (by omega) (by omega) hz3 ?_); intro a4 c4 w4 ho4 hu4 hn4))
      have HU4 := Lib.hid (show Upd (· = Q) w w4 from ⟨hu4.os.trans HU3.out.os, hu4.tape.trans HU3.out.tape, hu4.output.trans HU3.out.output, Nat.le_trans HU3.out.size hu4.size, fun i hi hn => (hu4.block i (Nat.lt_of_lt_of_le hi HU3.out.size) (fun h => by obtain ⟨z, hz, hb⟩ := mem_blk.1 h; have := (HO.out.lt z hz).1; omega)).trans (HU3.out.block i hi hn)⟩)
      have hQ4 : QS B Q w4 := by
        obtain ⟨aq, nq, cq, Lq, pq, h1, h2, h3, h4, h5, h6, h7⟩ := HQ3.out
        have hnb : ∀ i, i < w.heap.size → i ∉ blk a := fun i hi h => by obtain ⟨z, hz, hb⟩ := mem_blk.1 h; have := (HO.out.lt z hz).1; omega
        exact ⟨aq, nq, cq, Lq, pq, row_upd hu4 (hnb Q hQlt) h1, h2.updP hu4 (fun x hx hn => hnb _ (by have := h6 x hx hn; omega)), h3, h4, h5, h6, h7⟩
      have HQ4 := Lib.hid hQ4
      have HO4 := Lib.hid (show OwnK encPB 2 108 w4 w.heap.size a4 (L ++ [(x, y)]).length c4 (L ++ [(x, y)]) from by rw [List.length_append]; exact ho4)
      clear ho4 hu4 hn4 hQ4 HQ3 HU3 HO3 HR3 HO2 HQ2 HU2 HB2
      go_wp2_with fail
      go_roundw
      case rel => exact ⟨j - 1, a4, c4, L ++ [(x, y)], by rw [List.length_append]; rfl, by congr 1; omega, by rw [List.length_append]; simp; omega, HO4.out, (fun p hp => by
        rcases List.mem_append.1 hp with hp | hp
        · exact HL.out p hp
        · rw [List.mem_singleton] at hp; subst hp; exact HP.out), HQ4.out, HU4.out⟩
      case measure => simp [intOf]; omega
    · obtain rfl : j = 0 := by omega
      have hd : decide ((0 : Int) < ((0 : Nat) : Int)) = false := by simp
      go_wp2_with fail
      go_ret
      exact ⟨a, c, L, rfl, HO.out, by omega, HL.out, HQr.out, HUr.out⟩
end Go.Proofs.Ytpkmdnfkeebgbaa

/- Texts turned to bytes; what Name, Payload, Join compute, loosely. Conditions stand as premises. -/
namespace Go.Proofs.Ytpkmdnfkeebgbaa
open Go.ChangeShapes Go.WideShapes Go.ChangeAt Go.RowKit
set_option linter.unusedVariables false
set_option linter.unusedSimpArgs false

def strL (s : ByteArray) : List Int := s.data.toList.map fun b => (b.toNat : Int)
theorem strL_length (s : ByteArray) : (strL s).length = s.size := by simp [strL]
theorem strL_isB (s : ByteArray) : IsB (strL s) := by
  intro x hx
  obtain ⟨b, _, rfl⟩ := List.mem_map.1 hx
  have := b.toNat_lt
  omega
section
variable {P : Program} {w : World} {ops : Array Oper} {rest : List Oper} {o : Oper} {a : Act} {Q : Exit → Act → World → Prop}
theorem wp_strBytes {K : Act → World → Prop} {src dst e : TypeId} {u : TypeDesc} {x : Operand} (ho : o.op = .convert src dst x) (hs : P.underlying src = some .string) (hd : P.underlying dst = some (.slice e)) (he : P.underlying e = some (.int .u8))
    {s : ByteArray} (hx : a.eval x = .string s) (hsz : s.size ≤ 100000)
    (h : ∀ a' c' w', RdB w' a' s.size c' (strL s) → Below w.heap.size w w' → (∀ x, a' = some x → w.heap.size ≤ x.block ∧ x.block < w'.heap.size) → K (a.put o.dst (.slice a' s.size c')) w') : o.wp P a w K Q := by
  have hrun := Lib.run_convert_string_bytes (P := P) w src dst e s hs hd he
  have hle := grownCap_ge w s.size 0 e
  have hcm := grownCap_le_maxLen w s.size 0 e (by unfold maxLen; omega)
  have := h (some ⟨w.heap.size, 0, none⟩) (grownCap w s.size 0 e) (Lib.bytesWorld w e s)
    ⟨strL_isB s, strL_length s, hle, hcm, (fun h => by cases h), .inr ⟨w.heap.size, 0, rfl, by rw [Lib.bytesWorld_size]; omega, fun i y hy => by
      have hi : i < s.size := by have := (List.getElem?_eq_some_iff.1 hy).1; rwa [strL_length] at this
      rw [Nat.zero_add, Lib.bytesWorld_cell w e s i hi]
      unfold strL at hy
      rw [List.getElem?_map] at hy
      obtain ⟨z, hz, rfl⟩ := Option.map_eq_some_iff.1 hy
      rw [List.getD_eq_getElem?_getD, hz]
      rfl⟩⟩
    ⟨rfl, rfl, rfl, by rw [Lib.bytesWorld_size]; omega, fun k hk => Lib.bytesWorld_at_old w e s k hk⟩
    (fun x hx => by cases hx; exact ⟨Nat.le_refl _, by rw [Lib.bytesWorld_size]; show w.heap.size < _; omega⟩)
  unfold Oper.wp execOp
  simp only [ho, hx, Sem.run_bind, hrun, Result.andThen_ok, Sem.run_pure]
  exact this
theorem wpList_strBytes (hgd : o.guard = none) {src dst e : TypeId} {x : Operand} (ho : o.op = .convert src dst x) (hs : P.underlying src = some .string) (hd : P.underlying dst = some (.slice e)) (he : P.underlying e = some (.int .u8))
    {s : ByteArray} (hx : a.eval x = .string s) (hsz : s.size ≤ 100000)
    (h : ∀ a' c' w', RdB w' a' s.size c' (strL s) → Below w.heap.size w w' → (∀ x, a' = some x → w.heap.size ≤ x.block ∧ x.block < w'.heap.size) → wpList P ops Q rest (a.put o.dst (.slice a' s.size c')) w') : wpList P ops Q (o :: rest) a w :=
  wpList_plain hgd fun _ hK => wp_strBytes (u := .string) ho hs hd he hx hsz fun a' c' w' h1 h2 h3 => hK _ _ (h a' c' w' h1 h2 h3)
end

set_option maxRecDepth 100000 in
set_option maxHeartbeats 2000000 in
theorem payload_lo (x y : ByteArray) (hx : x.size ≤ 1000) (hy : y.size ≤ 1000) (w : World) :
    Calls Try.prog 60 #[.agg #[.string x, .string y]] w fun e w' => ∃ s, e = .returned (.string s) ∧ s.size = x.size + 1 + y.size ∧ Below w.heap.size w w' := by
  have h1 := heap_alloc_new w (.cells #[Value.string x, Value.string y] 108)
  have i0 := cell_of_heap h1 0 (.string x) rfl
  have i1 := cell_of_heap h1 1 (.string y) rfl
  have hB := below_alloc w (.cells #[Value.string x, Value.string y] 108)
  clear h1
  have hs : (x ++ ({ data := #[61] } : ByteArray)).size = x.size + 1 := by rw [ByteArray.size_append]; rfl
  have a1 := fun w : World => run_string_add (P := Try.prog) (w := w) x ({ data := #[61] } : ByteArray) (by omega) (by decide)
  have a2 := fun w : World => run_string_add (P := Try.prog) (w := w) (x ++ ({ data := #[61] } : ByteArray)) y (by rw [hs]; omega) (by omega)
  go_enter Try.func60, Try.ntmps60
  go_wp2_with fail
  go_ret
  exact ⟨_, rfl, by rw [ByteArray.size_append, hs], hB⟩
/-- Yes or no; nothing written. -/
def BoolE (w : World) (e : Ending) (w' : World) : Prop := ∃ b : Bool, e = .returned (.bool b) ∧ w = w'
set_option maxRecDepth 100000 in
set_option maxHeartbeats 4000000 in
theorem name_lo (x : ByteArray) (hx : x.size ≤ 1000) (w : World) :
    Calls Try.prog 69 #[.string x] w (BoolE w) := by
  go_enter Try.func69, Try.ntmps69
  go_wp2_with fail
  go_loopw [3] (fun i wr => ∃ (k : Nat), k ≤ x.size ∧ i = .int .i64 (k : Int) ∧ wr = w) (fun i _ => x.size - (intOf i).toNat)
  case atStart => exact ⟨0, by omega, rfl, rfl⟩
  case round =>
    obtain ⟨k, hk, rfl, rfl⟩ := hrel
    by_cases hlt : k < x.size
    · have hlt' : (k : Int) < (x.size : Int) := by omega
      have hk0 : (0 : Int) ≤ (k : Int) := by omega
      go_upto_region 5 with fail
      generalize ((x[k]'hlt).toNat : Int) = c
      generalize hkI : (k : Int) = kI
      go_cut [35] from 14 to 34 (fun s_ wx => ∃ b : Bool, s_ = .bool b ∧ wr = wx)
      case first =>
        rcases h1 : decide ((48 : Int) ≤ c) with _ | _ <;> rcases h2 : decide (c ≤ (57 : Int)) with _ | _ <;> rcases h3 : decide ((0 : Int) < kI) with _ | _ <;> rcases h4 : decide ((65 : Int) ≤ c) with _ | _ <;> rcases h5 : decide (c ≤ (90 : Int)) with _ | _ <;> rcases h6 : (c == 95) with _ | _
        all_goals
          go_wp2_with fail
          go_meet
          exact ⟨_, rfl, rfl⟩
      case' rest =>
        obtain ⟨b, rfl, rfl⟩ := hcut
        subst hkI
      cases b with
      | true =>
        go_wp2_with fail
        go_roundw
        case rel => exact ⟨k + 1, by omega, by congr 1, trivial⟩
        case measure => simp [intOf]; omega
      | false =>
        go_wp2_with fail
        go_ret
        exact ⟨_, rfl, rfl⟩
    · obtain rfl : k = x.size := by omega
      have hge : ¬ ((x.size : Int) < (x.size : Int)) := by omega
      rcases h1 : decide ((1 : Int) ≤ (x.size : Int)) with _ | _
      · have h2 : ¬ (1 : Int) ≤ (x.size : Int) := by simpa using h1
        go_wp2_with fail
        go_ret
        exact ⟨_, rfl, rfl⟩
      · have h2 : (1 : Int) ≤ (x.size : Int) := by simpa using h1
        go_wp2_with fail
        go_ret
        exact ⟨_, rfl, rfl⟩

/-- Some bytes and a code; only new memory written. -/
def JoinE (w : World) (e : Ending) (w' : World) : Prop := ∃ (a : Option Addr) (n c : Nat) (k : Int), e = .returned (.tuple #[.slice a n c, .int .i64 k]) ∧ Below w.heap.size w w'
set_option maxRecDepth 100000 in
set_option maxHeartbeats 2000000 in
theorem join_lo (x y : ByteArray) (hx : x.size ≤ 100) (hy : y.size ≤ 100) (w : World) :
    Calls Try.prog 59 #[.agg #[.string x, .string y]] w (JoinE w) := by
  go_enter Try.func59, Try.ntmps59
  go_upto_region 1 with fail
  have h1 := heap_alloc_new w (.cells #[Value.string x, Value.string y] 108)
  have HB := Lib.hid (below_alloc w (.cells #[Value.string x, Value.string y] 108))
  generalize w.alloc (.cells #[Value.string x, Value.string y] 108) = w1 at h1 HB ⊢
  have i0 := cell_of_heap h1 0 (.string x) rfl
  have i1 := cell_of_heap h1 1 (.string y) rfl
  have HX := Lib.hid h1
  clear h1
  have hd : decide ((256 : Int) < (y.size : Int)) = false := by simp; omega
  have hd2 : ¬ (256 : Int) < (y.size : Int) := by omega
  go_upto_region 1 with fail
  have hsz : ∀ s : ByteArray, s.size = x.size + 1 + y.size → s.size ≤ 100000 := fun s h => by omega
  go_wp2_with (first
    | (go_at_call 69; refine (name_lo x (by omega) _).mono ?_; rintro e w2 ⟨b, rfl, rfl⟩; cases b)
    | (with_reducible refine wpList_loadS rfl rfl Try.pairI rfl HX.out (by with_unfolding_all rfl) ?_)
    | (go_at_call 60; refine (payload_lo x y (by omega) (by omega) _).mono ?_; rintro e w3 ⟨s, rfl, hs, hb3⟩)
    | (with_reducible refine wpList_strBytes rfl rfl Try.underlying9 Try.underlying22 Try.underlying5 rfl (hsz _ hs) ?_; intro a4 c4 w4 hr4 hb4 hf4))
  · refine bodyPost_ret (v := .tuple #[.slice none 0 0, .int .i64 1]) (by simp [results, Try.results59, go_sem]) rfl ?_
    exact ⟨none, 0, 0, 1, rfl, HB.out⟩
  · refine bodyPost_ret (v := .tuple #[.slice a4 s.size c4, .int .i64 0]) (by simp [results, Try.results59, go_sem]; omega) rfl ?_
    exact ⟨a4, _, c4, 0, rfl, HB.out.trans ((hb3.mono HB.out.size).trans (hb4.mono (Nat.le_trans HB.out.size hb3.size)))⟩
end Go.Proofs.Ytpkmdnfkeebgbaa

/- What the document's List computes, loosely: some of the pairs. Conditions stand as premises. -/
namespace Go.Proofs.Ytpkmdnfkeebgbaa
open Go.ChangeShapes Go.WideShapes Go.ChangeAt Go.RowKit
set_option linter.unusedVariables false
set_option linter.unusedSimpArgs false

/-- Some pairs and a code. -/
def ListE (n : Nat) (w : World) (e : Ending) (w' : World) : Prop :=
  ∃ (a : Option Addr) (c : Nat) (L : List PB) (k : Int), e = .returned (.tuple #[.slice a L.length c, .int .i64 k]) ∧ OwnK encPB 2 108 w' w.heap.size a L.length c L ∧ L.length ≤ n ∧ (∀ p ∈ L, PairOK p) ∧ Below w.heap.size w w'
theorem pb_load (p : PB) : (Value.agg (encPB p).toArray) = .agg #[.string p.1, .string p.2] := rfl
theorem Try.pairG : Try.prog.eqGuardType Try.prog.depth 108 = false := by kernel_rfl
/-- Whether two pairs are the same: yes or no. -/
theorem pair_eql (q p : PB) : ∃ X : Bool, ∀ (w : World) (ρ : Operand → Value) (o : Oper) {t2 : TypeId} {x y : Operand}, o.op = .binOp .eql 108 x y t2 → ρ x = .agg (encPB q).toArray → ρ y = .agg (encPB p).toArray → (execOp ρ o).run Try.prog w = .ok (.value (.bool X)) w := by
  refine ⟨(q.1.toList == p.1.toList) && (q.2.toList == p.2.toList), fun w ρ o t2 x y ho hx hy => ?_⟩
  unfold execOp
  simp only [ho, hx, hy, Sem.run_bind, run_eqGuard_agg _ _ _ _ _ _ _ Try.pairG, Result.andThen_ok, run_eql_struct]
  rw [run_equalIn_struct w 9999 108 _ _ (by kernel_rfl) (by kernel_rfl)]
  unfold encPB pairV
  cases h1 : (q.1.toList == p.1.toList) <;> cases h2 : (q.2.toList == p.2.toList)
  all_goals go_simp
def zeroPB : PB := (⟨#[]⟩, ⟨#[]⟩)

set_option maxRecDepth 100000 in
set_option maxHeartbeats 8000000 in
theorem list_lo (a0 : Option Addr) (n c0 : Nat) (l : List PB) (w : World) (hr : RdK encPB 2 w a0 n c0 l) (hl : ∀ p ∈ l, PairOK p) (hn : n ≤ 100) :
    Calls Try.prog 48 #[.slice a0 n c0] w (ListE n w) := by
  by_cases h0 : n = 0
  · have h0' : (n == 0) = true := by simpa using h0
    have h0'' : ((n : Int) == 0) = true := by simp; omega
    go_enter Try.func48, Try.ntmps48
    go_wp2_with fail
    refine bodyPost_ret (v := .tuple #[.slice none 0 0, .int .i64 16]) (by simp [results, Try.results48, go_sem]) rfl ?_
    exact ⟨none, 0, [], 16, rfl, OwnK.nil _ _ _ _ _, Nat.zero_le _, (fun p hp => by cases hp), Below.refl _ _⟩
  have h0' : (n == 0) = false := by simpa using h0
  have h0'' : ((n : Int) == 0) = false := by simp; omega
  obtain ⟨b, off, rfl, hbl, hcs⟩ := hr.at (by omega)
  have hll := hr.1
  have HCs := Lib.hid hcs
  have HL0 := Lib.hid hl
  clear hr hcs hl
  go_enter Try.func48, Try.ntmps48
  go_wp2_with fail
  go_loopw [4, 5] (fun s_ i_ wr => ∃ (i : Nat) (a : Option Addr) (c : Nat) (L : List PB), s_ = .slice a L.length c ∧ i_ = .int .i64 (i : Int) ∧ i ≤ n ∧ L.length ≤ i ∧ OwnK encPB 2 108 wr w.heap.size a L.length c L ∧ (∀ p ∈ L, PairOK p) ∧ Below w.heap.size w wr) (fun _ i_ _ => n - (intOf i_).toNat)
  case atStart => exact ⟨0, none, 0, [], rfl, rfl, Nat.zero_le _, Nat.le_refl _, OwnK.nil _ _ _ _ _, (fun p hp => by cases hp), Below.refl _ _⟩
  case round =>
    obtain ⟨i, a, c, L, rfl, rfl, hi, hLi, ho, hL, hB⟩ := hrel
    have HO := Lib.hid ho
    have HL := Lib.hid hL
    have HB := Lib.hid hB
    clear ho hL hB
    by_cases hlt : i < n
    · have hlt' : (i : Int) < (n : Int) := by omega
      have hi0 : (0 : Int) ≤ (i : Int) := by omega
      obtain ⟨p, hp⟩ : ∃ p, l[i]? = some p := ⟨_, List.getElem?_eq_getElem (by omega)⟩
      obtain ⟨hp1, hp2⟩ := HL0.out p (List.mem_of_getElem? hp)
      have HPr := Lib.hid (HCs.out.range i p hp (off + i * 2) rfl)
      have HP := Lib.hid hp
      clear hp
      go_upto_region 8 with (first
        | (with_reducible refine wpList_loadK rfl rfl Try.pairI rfl (range_below HPr.out HB.out hbl) encPB_E ?_)
        | (go_at_call 59; refine (join_lo p.1 p.2 (by omega) (by omega) _).mono ?_; rintro e w2 ⟨aj, nj, cj, kj, rfl, hb2⟩))
      have HB2 := Lib.hid (HB.out.trans (hb2.mono HB.out.size))
      have HO2 := Lib.hid (HO.out.mono hb2)
      clear hb2 HO HB
      rcases hk : (kj != 0) with _ | _
      case true =>
        go_wp2_with fail
        refine bodyPost_ret (v := .tuple #[.slice none 0 0, .int .i64 kj]) (by simp [results, Try.results48, go_sem]) rfl ?_
        exact ⟨none, 0, [], kj, rfl, OwnK.nil _ _ _ _ _, Nat.zero_le _, (fun p hp => by cases hp), HB2.out⟩
      go_wp2_with fail
      go_loopw [8] (fun j_ wx => ∃ j : Nat, j_ = .int .i64 (j : Int) ∧ j ≤ L.length ∧ OwnK encPB 2 108 wx w.heap.size a L.length c L ∧ Below w.heap.size w wx) (fun j_ _ => L.length - (intOf j_).toNat)
      case atStart => exact ⟨0, rfl, Nat.zero_le _, HO2.out, HB2.out⟩
      case round =>
        obtain ⟨j, rfl, hj, ho, hB⟩ := hrel
        clear HO2 HB2
        have HO := Lib.hid ho
        have HB := Lib.hid hB
        clear ho hB
        have hj0 : (0 : Int) ≤ (j : Int) := by omega
        go_upto_region 11 with fail
        go_cut [46] from 30 to 45 (fun s_ wx => ∃ b : Bool, s_ = .bool b ∧ (b = true → j < L.length) ∧ Below wr.heap.size wr wx)
        case first =>
          by_cases hjl : j < L.length
          · have hjl' : (j : Int) < (L.length : Int) := by omega
            obtain ⟨g, rfl, hg1, hg2⟩ := HO.out.at (by omega)
            obtain ⟨q, hq⟩ : ∃ q, L[j]? = some q := ⟨_, List.getElem?_eq_getElem hjl⟩
            obtain ⟨hq1, hq2⟩ := HL.out q (List.mem_of_getElem? hq)
            have hC : wr.drew.rangeAt g (j * 2) (encPB q) ∧ wr.drew.rangeAt b (off + i * 2) (encPB p) := ⟨HO.out.range encPB_E j q hq _ rfl, range_below HPr.out HB.out.drew hbl⟩
            refine wp_region_held (S := fun w' => w'.rangeAt g (j * 2) (encPB q) ∧ w'.rangeAt b (off + i * 2) (encPB p)) (by kernel_rfl) ?_
            change wpAnyH _ _ _ _ _ _ _ _ wr.drew
            have hbW : b < wr.heap.size := Nat.lt_of_lt_of_le hbl HB.out.size
            have HBd := Lib.hid (below_drew wr)
            generalize wr.drew = wd at hC HBd ⊢
            refine held_take 0 (d := some 30) (v := (.int .i64 (j : Int))) rfl rfl (by kernel_rfl) (by kernel_rfl) (by kernel_rfl) (fun _ _ _ h => h) hC (by kernel_rfl) (fun w hSw => by clear hSw; go_simp) ?_
            try simp only [Act.put, List.setIfInBounds_toArray, List.set_cons_zero, List.set_cons_succ]
            refine held_take 1 (d := some 31) (v := (.slice (some ⟨g, 0, none⟩) L.length c)) rfl rfl (by kernel_rfl) (by kernel_rfl) (by kernel_rfl) (fun _ _ _ h => h) hC (by kernel_rfl) (fun w hSw => by clear hSw; go_simp) ?_
            try simp only [Act.put, List.setIfInBounds_toArray, List.set_cons_zero, List.set_cons_succ]
            refine held_take 2 (d := some 32) (v := (.int .i64 (L.length : Int))) rfl rfl (by kernel_rfl) (by kernel_rfl) (by kernel_rfl) (fun _ _ _ h => h) hC (by kernel_rfl) (fun w hSw => by clear hSw; go_simp) ?_
            try simp only [Act.put, List.setIfInBounds_toArray, List.set_cons_zero, List.set_cons_succ]
            refine held_take 3 (d := some 33) (v := (.bool true)) rfl rfl (by kernel_rfl) (by kernel_rfl) (by kernel_rfl) (fun _ _ _ h => h) hC (by kernel_rfl) (fun w hSw => by clear hSw; go_simp) ?_
            try simp only [Act.put, List.setIfInBounds_toArray, List.set_cons_zero, List.set_cons_succ]
            refine held_take 4 (d := some 34) (v := (.bool true)) rfl rfl (by kernel_rfl) (by kernel_rfl) (by kernel_rfl) (fun _ _ _ h => h) hC (by kernel_rfl) (fun w hSw => by clear hSw; go_simp) ?_
            try simp only [Act.put, List.setIfInBounds_toArray, List.set_cons_zero, List.set_cons_succ]
            refine held_take 5 (d := some 35) (v := (.slice (some ⟨g, 0, none⟩) L.length c)) rfl rfl (by kernel_rfl) (by kernel_rfl) (by kernel_rfl) (fun _ _ _ h => h) hC (by kernel_rfl) (fun w hSw => by clear hSw; go_simp) ?_
            try simp only [Act.put, List.setIfInBounds_toArray, List.set_cons_zero, List.set_cons_succ]
            refine held_take 6 (d := some 36) (v := (.int .i64 (j : Int))) rfl rfl (by kernel_rfl) (by kernel_rfl) (by kernel_rfl) (fun _ _ _ h => h) hC (by kernel_rfl) (fun w hSw => by clear hSw; go_simp) ?_
            try simp only [Act.put, List.setIfInBounds_toArray, List.set_cons_zero, List.set_cons_succ]
            refine held_take 7 (d := some 37) (v := (.pointer (some ⟨g, j * 2, none⟩))) rfl rfl (by kernel_rfl) (by kernel_rfl) (by kernel_rfl) (fun _ _ _ h => h) hC (by kernel_rfl) (fun w hSw => by clear hSw; go_simp) ?_
            try simp only [Act.put, List.setIfInBounds_toArray, List.set_cons_zero, List.set_cons_succ]
            refine held_take 8 (d := some 38) (v := (.agg (encPB q).toArray)) rfl rfl (by kernel_rfl) (by kernel_rfl) (by kernel_rfl) (fun _ _ _ h => h) hC (by kernel_rfl) (fun w hSw => by exact exec_loadK rfl Try.pairI rfl hSw.1 encPB_E) ?_
            try simp only [Act.put, List.setIfInBounds_toArray, List.set_cons_zero, List.set_cons_succ]
            refine held_take 10 (d := some 40) (v := (.slice (some ⟨b, off, none⟩) n c0)) rfl rfl (by kernel_rfl) (by kernel_rfl) (by kernel_rfl) (fun _ _ _ h => h) hC (by kernel_rfl) (fun w hSw => by clear hSw; go_simp) ?_
            try simp only [Act.put, List.setIfInBounds_toArray, List.set_cons_zero, List.set_cons_succ]
            refine held_take 11 (d := some 41) (v := (.int .i64 (i : Int))) rfl rfl (by kernel_rfl) (by kernel_rfl) (by kernel_rfl) (fun _ _ _ h => h) hC (by kernel_rfl) (fun w hSw => by clear hSw; go_simp) ?_
            try simp only [Act.put, List.setIfInBounds_toArray, List.set_cons_zero, List.set_cons_succ]
            refine held_take 12 (d := some 42) (v := (.pointer (some ⟨b, off + i * 2, none⟩))) rfl rfl (by kernel_rfl) (by kernel_rfl) (by kernel_rfl) (fun _ _ _ h => h) hC (by kernel_rfl) (fun w hSw => by clear hSw; go_simp) ?_
            try simp only [Act.put, List.setIfInBounds_toArray, List.set_cons_zero, List.set_cons_succ]
            refine held_take 13 (d := some 43) (v := (.agg (encPB p).toArray)) rfl rfl (by kernel_rfl) (by kernel_rfl) (by kernel_rfl) (fun _ _ _ h => h) hC (by kernel_rfl) (fun w hSw => by exact exec_loadK rfl Try.pairI rfl hSw.2 encPB_E) ?_
            try simp only [Act.put, List.setIfInBounds_toArray, List.set_cons_zero, List.set_cons_succ]
            refine held_one 9 rfl (by kernel_rfl) (fun K hK => ?_)
            go_simp
            go_at_call 60
            refine (payload_lo q.1 q.2 (by omega) (by omega) _).mono ?_
            rintro e w3 ⟨s1, rfl, hs1, hb3⟩
            have hgd : g < wd.heap.size := Nat.lt_of_lt_of_le hg2 HBd.out.size
            have hbd : b < wd.heap.size := Nat.lt_of_lt_of_le hbW HBd.out.size
            have hC3 : w3.rangeAt g (j * 2) (encPB q) ∧ w3.rangeAt b (off + i * 2) (encPB p) := ⟨range_below hC.1 hb3 hgd, range_below hC.2 hb3 hbd⟩
            have HB3 := Lib.hid (HBd.out.trans (hb3.mono HBd.out.size))
            go_simp
            refine hK _ _ hC3 ?_
            clear hK K
            try simp only [Act.put, List.setIfInBounds_toArray, List.set_cons_zero, List.set_cons_succ]
            refine held_one 14 rfl (by kernel_rfl) (fun K hK => ?_)
            go_simp
            go_at_call 60
            refine (payload_lo p.1 p.2 (by omega) (by omega) _).mono ?_
            rintro e w4 ⟨s2, rfl, hs2, hb4⟩
            have hC4 : w4.rangeAt g (j * 2) (encPB q) ∧ w4.rangeAt b (off + i * 2) (encPB p) := ⟨range_below hC3.1 hb4 (Nat.lt_of_lt_of_le hgd hb3.size), range_below hC3.2 hb4 (Nat.lt_of_lt_of_le hbd hb3.size)⟩
            have HB4 := Lib.hid (HB3.out.trans (hb4.mono HB3.out.size))
            go_simp
            refine hK _ _ hC4 ?_
            clear hK K
            try simp only [Act.put, List.setIfInBounds_toArray, List.set_cons_zero, List.set_cons_succ]
            refine held_one 15 rfl (by kernel_rfl) (fun K hK => ?_)
            go_simp
            refine hK _ _ hC4 ?_
            clear hK K
            try simp only [Act.put, List.setIfInBounds_toArray, List.set_cons_zero, List.set_cons_succ]
            refine held_one 16 rfl (by kernel_rfl) (fun K hK => ?_)
            go_simp
            refine hK _ _ hC4 ?_
            clear hK K
            try simp only [Act.put, List.setIfInBounds_toArray, List.set_cons_zero, List.set_cons_succ]
            refine wpAnyH_done (by kernel_rfl) ?_ _
            go_wp2_with fail
            go_meet
            exact ⟨_, rfl, fun _ => hjl, HB4.out⟩
          · have hjl' : ¬ (j : Int) < (L.length : Int) := by omega
            have hC : True := trivial
            refine wp_region_held (S := fun w' => True) (by kernel_rfl) ?_
            change wpAnyH _ _ _ _ _ _ _ _ wr.drew
            refine held_take 0 (d := some 30) (v := (.int .i64 (j : Int))) rfl rfl (by kernel_rfl) (by kernel_rfl) (by kernel_rfl) (fun _ _ _ h => h) hC (by kernel_rfl) (fun w hSw => by clear hSw; go_simp) ?_
            try simp only [Act.put, List.setIfInBounds_toArray, List.set_cons_zero, List.set_cons_succ]
            refine held_take 1 (d := some 31) (v := (.slice a L.length c)) rfl rfl (by kernel_rfl) (by kernel_rfl) (by kernel_rfl) (fun _ _ _ h => h) hC (by kernel_rfl) (fun w hSw => by clear hSw; go_simp) ?_
            try simp only [Act.put, List.setIfInBounds_toArray, List.set_cons_zero, List.set_cons_succ]
            refine held_take 2 (d := some 32) (v := (.int .i64 (L.length : Int))) rfl rfl (by kernel_rfl) (by kernel_rfl) (by kernel_rfl) (fun _ _ _ h => h) hC (by kernel_rfl) (fun w hSw => by clear hSw; go_simp) ?_
            try simp only [Act.put, List.setIfInBounds_toArray, List.set_cons_zero, List.set_cons_succ]
            refine held_take 3 (d := some 33) (v := (.bool false)) rfl rfl (by kernel_rfl) (by kernel_rfl) (by kernel_rfl) (fun _ _ _ h => h) hC (by kernel_rfl) (fun w hSw => by clear hSw; go_simp) ?_
            try simp only [Act.put, List.setIfInBounds_toArray, List.set_cons_zero, List.set_cons_succ]
            refine held_take 4 (d := some 34) (v := (.bool false)) rfl rfl (by kernel_rfl) (by kernel_rfl) (by kernel_rfl) (fun _ _ _ h => h) hC (by kernel_rfl) (fun w hSw => by clear hSw; go_simp) ?_
            try simp only [Act.put, List.setIfInBounds_toArray, List.set_cons_zero, List.set_cons_succ]
            refine held_skip 5 (d := some 35) rfl rfl (by kernel_rfl) (by kernel_rfl) (by kernel_rfl) (fun _ _ _ h => h) hC (by kernel_rfl) ?_
            try simp only [Act.put, List.setIfInBounds_toArray, List.set_cons_zero, List.set_cons_succ]
            refine held_skip 6 (d := some 36) rfl rfl (by kernel_rfl) (by kernel_rfl) (by kernel_rfl) (fun _ _ _ h => h) hC (by kernel_rfl) ?_
            try simp only [Act.put, List.setIfInBounds_toArray, List.set_cons_zero, List.set_cons_succ]
            refine held_skip 7 (d := some 37) rfl rfl (by kernel_rfl) (by kernel_rfl) (by kernel_rfl) (fun _ _ _ h => h) hC (by kernel_rfl) ?_
            try simp only [Act.put, List.setIfInBounds_toArray, List.set_cons_zero, List.set_cons_succ]
            refine held_skip 8 (d := some 38) rfl rfl (by kernel_rfl) (by kernel_rfl) (by kernel_rfl) (fun _ _ _ h => h) hC (by kernel_rfl) ?_
            try simp only [Act.put, List.setIfInBounds_toArray, List.set_cons_zero, List.set_cons_succ]
            refine held_skip 9 (d := some 39) rfl rfl (by kernel_rfl) (by kernel_rfl) (by kernel_rfl) (fun _ _ _ h => h) hC (by kernel_rfl) ?_
            try simp only [Act.put, List.setIfInBounds_toArray, List.set_cons_zero, List.set_cons_succ]
            refine held_skip 10 (d := some 40) rfl rfl (by kernel_rfl) (by kernel_rfl) (by kernel_rfl) (fun _ _ _ h => h) hC (by kernel_rfl) ?_
            try simp only [Act.put, List.setIfInBounds_toArray, List.set_cons_zero, List.set_cons_succ]
            refine held_skip 11 (d := some 41) rfl rfl (by kernel_rfl) (by kernel_rfl) (by kernel_rfl) (fun _ _ _ h => h) hC (by kernel_rfl) ?_
            try simp only [Act.put, List.setIfInBounds_toArray, List.set_cons_zero, List.set_cons_succ]
            refine held_skip 12 (d := some 42) rfl rfl (by kernel_rfl) (by kernel_rfl) (by kernel_rfl) (fun _ _ _ h => h) hC (by kernel_rfl) ?_
            try simp only [Act.put, List.setIfInBounds_toArray, List.set_cons_zero, List.set_cons_succ]
            refine held_skip 13 (d := some 43) rfl rfl (by kernel_rfl) (by kernel_rfl) (by kernel_rfl) (fun _ _ _ h => h) hC (by kernel_rfl) ?_
            try simp only [Act.put, List.setIfInBounds_toArray, List.set_cons_zero, List.set_cons_succ]
            refine held_skip 14 (d := some 44) rfl rfl (by kernel_rfl) (by kernel_rfl) (by kernel_rfl) (fun _ _ _ h => h) hC (by kernel_rfl) ?_
            try simp only [Act.put, List.setIfInBounds_toArray, List.set_cons_zero, List.set_cons_succ]
            refine held_skip 15 (d := some 45) rfl rfl (by kernel_rfl) (by kernel_rfl) (by kernel_rfl) (fun _ _ _ h => h) hC (by kernel_rfl) ?_
            try simp only [Act.put, List.setIfInBounds_toArray, List.set_cons_zero, List.set_cons_succ]
            refine held_take 16 (d := some 46) (v := (.bool false)) rfl rfl (by kernel_rfl) (by kernel_rfl) (by kernel_rfl) (fun _ _ _ h => h) hC (by kernel_rfl) (fun w hSw => by clear hSw; go_simp) ?_
            try simp only [Act.put, List.setIfInBounds_toArray, List.set_cons_zero, List.set_cons_succ]
            refine wpAnyH_done (by kernel_rfl) ?_ _
            go_wp2_with fail
            go_meet
            exact ⟨false, rfl, (fun h => by cases h), below_drew wr⟩
        case' rest =>
          obtain ⟨bb, rfl, hbj, hBc⟩ := hcut
        have HOc := Lib.hid (HO.out.mono hBc)
        have HBc := Lib.hid (HB.out.trans (hBc.mono HB.out.size))
        clear hBc HO HB
        cases bb with
        | true =>
          have hjl := hbj rfl
          go_wp2_with fail
          go_roundw
          case rel => exact ⟨j + 1, by congr 1, by omega, HOc.out, HBc.out⟩
          case measure => simp [intOf]; omega
        | false =>
          clear hbj
          go_upto_region 13 with fail
          go_cut [63] from 49 to 62 (fun s_ wx => ∃ b : Bool, s_ = .bool b ∧ Below wc.heap.size wc wx)
          case first =>
            by_cases hjl : j < L.length
            · have hjl' : (j : Int) < (L.length : Int) := by omega
              obtain ⟨g, rfl, hg1, hg2⟩ := HOc.out.at (by omega)
              obtain ⟨q, hq⟩ : ∃ q, L[j]? = some q := ⟨_, List.getElem?_eq_getElem hjl⟩
              have hC : wc.drew.rangeAt g (j * 2) (encPB q) ∧ wc.drew.rangeAt b (off + i * 2) (encPB p) := ⟨HOc.out.range encPB_E j q hq _ rfl, range_below HPr.out HBc.out.drew hbl⟩
              refine wp_region_held (S := fun w' => w'.rangeAt g (j * 2) (encPB q) ∧ w'.rangeAt b (off + i * 2) (encPB p)) (by kernel_rfl) ?_
              change wpAnyH _ _ _ _ _ _ _ _ wc.drew
              refine held_take 0 (d := some 49) (v := (.int .i64 (j : Int))) rfl rfl (by kernel_rfl) (by kernel_rfl) (by kernel_rfl) (fun _ _ _ h => h) hC (by kernel_rfl) (fun w hSw => by clear hSw; go_simp) ?_
              try simp only [Act.put, List.setIfInBounds_toArray, List.set_cons_zero, List.set_cons_succ]
              refine held_take 1 (d := some 50) (v := (.slice (some ⟨g, 0, none⟩) L.length c)) rfl rfl (by kernel_rfl) (by kernel_rfl) (by kernel_rfl) (fun _ _ _ h => h) hC (by kernel_rfl) (fun w hSw => by clear hSw; go_simp) ?_
              try simp only [Act.put, List.setIfInBounds_toArray, List.set_cons_zero, List.set_cons_succ]
              refine held_take 2 (d := some 51) (v := (.int .i64 (L.length : Int))) rfl rfl (by kernel_rfl) (by kernel_rfl) (by kernel_rfl) (fun _ _ _ h => h) hC (by kernel_rfl) (fun w hSw => by clear hSw; go_simp) ?_
              try simp only [Act.put, List.setIfInBounds_toArray, List.set_cons_zero, List.set_cons_succ]
              refine held_take 3 (d := some 52) (v := (.bool true)) rfl rfl (by kernel_rfl) (by kernel_rfl) (by kernel_rfl) (fun _ _ _ h => h) hC (by kernel_rfl) (fun w hSw => by clear hSw; go_simp) ?_
              try simp only [Act.put, List.setIfInBounds_toArray, List.set_cons_zero, List.set_cons_succ]
              refine held_take 4 (d := some 53) (v := (.bool true)) rfl rfl (by kernel_rfl) (by kernel_rfl) (by kernel_rfl) (fun _ _ _ h => h) hC (by kernel_rfl) (fun w hSw => by clear hSw; go_simp) ?_
              try simp only [Act.put, List.setIfInBounds_toArray, List.set_cons_zero, List.set_cons_succ]
              refine held_take 5 (d := some 54) (v := (.slice (some ⟨g, 0, none⟩) L.length c)) rfl rfl (by kernel_rfl) (by kernel_rfl) (by kernel_rfl) (fun _ _ _ h => h) hC (by kernel_rfl) (fun w hSw => by clear hSw; go_simp) ?_
              try simp only [Act.put, List.setIfInBounds_toArray, List.set_cons_zero, List.set_cons_succ]
              refine held_take 6 (d := some 55) (v := (.int .i64 (j : Int))) rfl rfl (by kernel_rfl) (by kernel_rfl) (by kernel_rfl) (fun _ _ _ h => h) hC (by kernel_rfl) (fun w hSw => by clear hSw; go_simp) ?_
              try simp only [Act.put, List.setIfInBounds_toArray, List.set_cons_zero, List.set_cons_succ]
              refine held_take 7 (d := some 56) (v := (.pointer (some ⟨g, j * 2, none⟩))) rfl rfl (by kernel_rfl) (by kernel_rfl) (by kernel_rfl) (fun _ _ _ h => h) hC (by kernel_rfl) (fun w hSw => by clear hSw; go_simp) ?_
              try simp only [Act.put, List.setIfInBounds_toArray, List.set_cons_zero, List.set_cons_succ]
              refine held_take 8 (d := some 57) (v := (.agg (encPB q).toArray)) rfl rfl (by kernel_rfl) (by kernel_rfl) (by kernel_rfl) (fun _ _ _ h => h) hC (by kernel_rfl) (fun w hSw => by exact exec_loadK rfl Try.pairI rfl hSw.1 encPB_E) ?_
              try simp only [Act.put, List.setIfInBounds_toArray, List.set_cons_zero, List.set_cons_succ]
              refine held_take 9 (d := some 58) (v := (.slice (some ⟨b, off, none⟩) n c0)) rfl rfl (by kernel_rfl) (by kernel_rfl) (by kernel_rfl) (fun _ _ _ h => h) hC (by kernel_rfl) (fun w hSw => by clear hSw; go_simp) ?_
              try simp only [Act.put, List.setIfInBounds_toArray, List.set_cons_zero, List.set_cons_succ]
              refine held_take 10 (d := some 59) (v := (.int .i64 (i : Int))) rfl rfl (by kernel_rfl) (by kernel_rfl) (by kernel_rfl) (fun _ _ _ h => h) hC (by kernel_rfl) (fun w hSw => by clear hSw; go_simp) ?_
              try simp only [Act.put, List.setIfInBounds_toArray, List.set_cons_zero, List.set_cons_succ]
              refine held_take 11 (d := some 60) (v := (.pointer (some ⟨b, off + i * 2, none⟩))) rfl rfl (by kernel_rfl) (by kernel_rfl) (by kernel_rfl) (fun _ _ _ h => h) hC (by kernel_rfl) (fun w hSw => by clear hSw; go_simp) ?_
              try simp only [Act.put, List.setIfInBounds_toArray, List.set_cons_zero, List.set_cons_succ]
              refine held_take 12 (d := some 61) (v := (.agg (encPB p).toArray)) rfl rfl (by kernel_rfl) (by kernel_rfl) (by kernel_rfl) (fun _ _ _ h => h) hC (by kernel_rfl) (fun w hSw => by exact exec_loadK rfl Try.pairI rfl hSw.2 encPB_E) ?_
              try simp only [Act.put, List.setIfInBounds_toArray, List.set_cons_zero, List.set_cons_succ]
              obtain ⟨X, HX⟩ := pair_eql q p
              refine held_take 13 (d := some 62) (v := (.bool X)) rfl rfl (by kernel_rfl) (by kernel_rfl) (by kernel_rfl) (fun _ _ _ h => h) hC (by kernel_rfl) (fun w hSw => by exact HX w _ _ rfl rfl rfl) ?_
              try simp only [Act.put, List.setIfInBounds_toArray, List.set_cons_zero, List.set_cons_succ]
              refine held_take 14 (d := some 63) (v := (.bool X)) rfl rfl (by kernel_rfl) (by kernel_rfl) (by kernel_rfl) (fun _ _ _ h => h) hC (by kernel_rfl) (fun w hSw => by clear hSw; go_simp) ?_
              try simp only [Act.put, List.setIfInBounds_toArray, List.set_cons_zero, List.set_cons_succ]
              refine wpAnyH_done (by kernel_rfl) ?_ _
              go_wp2_with fail
              go_meet
              exact ⟨X, rfl, below_drew wc⟩
            · have hjl' : ¬ (j : Int) < (L.length : Int) := by omega
              have hC : True := trivial
              refine wp_region_held (S := fun w' => True) (by kernel_rfl) ?_
              change wpAnyH _ _ _ _ _ _ _ _ wc.drew
              refine held_take 0 (d := some 49) (v := (.int .i64 (j : Int))) rfl rfl (by kernel_rfl) (by kernel_rfl) (by kernel_rfl) (fun _ _ _ h => h) hC (by kernel_rfl) (fun w hSw => by clear hSw; go_simp) ?_
              try simp only [Act.put, List.setIfInBounds_toArray, List.set_cons_zero, List.set_cons_succ]
              refine held_take 1 (d := some 50) (v := (.slice a L.length c)) rfl rfl (by kernel_rfl) (by kernel_rfl) (by kernel_rfl) (fun _ _ _ h => h) hC (by kernel_rfl) (fun w hSw => by clear hSw; go_simp) ?_
              try simp only [Act.put, List.setIfInBounds_toArray, List.set_cons_zero, List.set_cons_succ]
              refine held_take 2 (d := some 51) (v := (.int .i64 (L.length : Int))) rfl rfl (by kernel_rfl) (by kernel_rfl) (by kernel_rfl) (fun _ _ _ h => h) hC (by kernel_rfl) (fun w hSw => by clear hSw; go_simp) ?_
              try simp only [Act.put, List.setIfInBounds_toArray, List.set_cons_zero, List.set_cons_succ]
              refine held_take 3 (d := some 52) (v := (.bool false)) rfl rfl (by kernel_rfl) (by kernel_rfl) (by kernel_rfl) (fun _ _ _ h => h) hC (by kernel_rfl) (fun w hSw => by clear hSw; go_simp) ?_
              try simp only [Act.put, List.setIfInBounds_toArray, List.set_cons_zero, List.set_cons_succ]
              refine held_take 4 (d := some 53) (v := (.bool false)) rfl rfl (by kernel_rfl) (by kernel_rfl) (by kernel_rfl) (fun _ _ _ h => h) hC (by kernel_rfl) (fun w hSw => by clear hSw; go_simp) ?_
              try simp only [Act.put, List.setIfInBounds_toArray, List.set_cons_zero, List.set_cons_succ]
              refine held_skip 5 (d := some 54) rfl rfl (by kernel_rfl) (by kernel_rfl) (by kernel_rfl) (fun _ _ _ h => h) hC (by kernel_rfl) ?_
              try simp only [Act.put, List.setIfInBounds_toArray, List.set_cons_zero, List.set_cons_succ]
              refine held_skip 6 (d := some 55) rfl rfl (by kernel_rfl) (by kernel_rfl) (by kernel_rfl) (fun _ _ _ h => h) hC (by kernel_rfl) ?_
              try simp only [Act.put, List.setIfInBounds_toArray, List.set_cons_zero, List.set_cons_succ]
              refine held_skip 7 (d := some 56) rfl rfl (by kernel_rfl) (by kernel_rfl) (by kernel_rfl) (fun _ _ _ h => h) hC (by kernel_rfl) ?_
              try simp only [Act.put, List.setIfInBounds_toArray, List.set_cons_zero, List.set_cons_succ]
              refine held_skip 8 (d := some 57) rfl rfl (by kernel_rfl) (by kernel_rfl) (by kernel_rfl) (fun _ _ _ h => h) hC (by kernel_rfl) ?_
              try simp only [Act.put, List.setIfInBounds_toArray, List.set_cons_zero, List.set_cons_succ]
              refine held_skip 9 (d := some 58) rfl rfl (by kernel_rfl) (by kernel_rfl) (by kernel_rfl) (fun _ _ _ h => h) hC (by kernel_rfl) ?_
              try simp only [Act.put, List.setIfInBounds_toArray, List.set_cons_zero, List.set_cons_succ]
              refine held_skip 10 (d := some 59) rfl rfl (by kernel_rfl) (by kernel_rfl) (by kernel_rfl) (fun _ _ _ h => h) hC (by kernel_rfl) ?_
              try simp only [Act.put, List.setIfInBounds_toArray, List.set_cons_zero, List.set_cons_succ]
              refine held_skip 11 (d := some 60) rfl rfl (by kernel_rfl) (by kernel_rfl) (by kernel_rfl) (fun _ _ _ h => h) hC (by kernel_rfl) ?_
              try simp only [Act.put, List.setIfInBounds_toArray, List.set_cons_zero, List.set_cons_succ]
              refine held_skip 12 (d := some 61) rfl rfl (by kernel_rfl) (by kernel_rfl) (by kernel_rfl) (fun _ _ _ h => h) hC (by kernel_rfl) ?_
              try simp only [Act.put, List.setIfInBounds_toArray, List.set_cons_zero, List.set_cons_succ]
              refine held_skip 13 (d := some 62) rfl rfl (by kernel_rfl) (by kernel_rfl) (by kernel_rfl) (fun _ _ _ h => h) hC (by kernel_rfl) ?_
              try simp only [Act.put, List.setIfInBounds_toArray, List.set_cons_zero, List.set_cons_succ]
              refine held_take 14 (d := some 63) (v := (.bool false)) rfl rfl (by kernel_rfl) (by kernel_rfl) (by kernel_rfl) (fun _ _ _ h => h) hC (by kernel_rfl) (fun w hSw => by clear hSw; go_simp) ?_
              try simp only [Act.put, List.setIfInBounds_toArray, List.set_cons_zero, List.set_cons_succ]
              refine wpAnyH_done (by kernel_rfl) ?_ _
              go_wp2_with fail
              go_meet
              exact ⟨false, rfl, below_drew wc⟩
          case' rest =>
            obtain ⟨b2, rfl, hBd⟩ := hcut
          obtain ⟨wd, rfl⟩ : ∃ wd, wd = wc := ⟨wc, rfl⟩
          have HOd := Lib.hid (HOc.out.mono hBd)
          have HBd := Lib.hid (HBc.out.trans (hBd.mono HBc.out.size))
          clear hBd HOc HBc
          cases b2 with
          | true =>
            go_wp2_with fail
            go_roundw
            case rel => exact ⟨i + 1, a, c, L, rfl, by congr 1, by omega, by omega, HOd.out, HL.out, HBd.out⟩
            case measure => simp [intOf]; omega
          | false =>
            have HBa := Lib.hid (below_alloc wd (.cells #[.string ⟨#[]⟩, .string ⟨#[]⟩] 108))
            have HOa := Lib.hid (HOd.out.mono HBa.out)
            have HRa := Lib.hid (RdK.one encPB_E 108 wd zeroPB #[.string ⟨#[]⟩, .string ⟨#[]⟩] rfl)
            have HBb := Lib.hid (HBd.out.trans (HBa.out.mono HBd.out.size))
            go_upto_region 15 with (at_builtin; go_must (refine wpList_appK encPB_E rfl rfl Try.pairK rfl rfl HOa.out HRa.out (by omega) (by omega) (by omega) HBb.out.size ?_); intro a4 c4 w4 ho4 hu4 hn4)
            have hB4 := HBb.out.trans (hu4.below (B := w.heap.size) HBb.out.size (fun k hk => by obtain ⟨z, hz, rfl⟩ := mem_blk.1 hk; exact (HOa.out.lt z hz).1))
            have HB4 := Lib.hid hB4
            obtain ⟨g, rfl, hg1, hg2⟩ := ho4.at (by omega)
            have HO4 := Lib.hid (show OwnK encPB 2 108 w4 w.heap.size (some ⟨g, 0, none⟩) (L.length + 1) c4 (L ++ [zeroPB]) from ho4)
            have hL1 : ∀ p ∈ L ++ [zeroPB], PairOK p := fun p hp => by
              rcases List.mem_append.1 hp with hp | hp
              · exact HL.out p hp
              · rw [List.mem_singleton] at hp; subst hp; exact ⟨Nat.zero_le _, Nat.zero_le _⟩
            have HL1 := Lib.hid hL1
            clear ho4 hu4 hn4 hB4 HOa HRa HBa HBb HOd HBd hL1
            go_wp2_with fail
            go_loopw [9] (fun m_ wy => ∃ (m : Nat) (L' : List PB), m_ = .int .i64 (m : Int) ∧ j ≤ m ∧ m ≤ L.length ∧ OwnK encPB 2 108 wy w.heap.size (some ⟨g, 0, none⟩) (L.length + 1) c4 L' ∧ (∀ p ∈ L', PairOK p) ∧ Below w.heap.size w wy) (fun m_ _ => (intOf m_).toNat)
            case atStart => exact ⟨L.length, L ++ [zeroPB], rfl, hj, Nat.le_refl _, HO4.out, HL1.out, HB4.out⟩
            case round =>
              obtain ⟨m, L', rfl, hm1, hm2, ho, hL', hB⟩ := hrel
              have HO := Lib.hid ho
              have HL' := Lib.hid hL'
              have HB := Lib.hid hB
              have hlen : L'.length = L.length + 1 := ho.1
              clear ho hL' hB
              by_cases hmj : j < m
              · have hmj' : (j : Int) < (m : Int) := by omega
                obtain ⟨q, hq⟩ : ∃ q, L'[m - 1]? = some q := ⟨_, List.getElem?_eq_getElem (by omega)⟩
                have HQ := Lib.hid (HL'.out q (List.mem_of_getElem? hq))
                have HRq := Lib.hid (HO.out.range encPB_E (m - 1) q hq ((m - 1) * 2) rfl)
                obtain ⟨m1, hm1e⟩ : ∃ m1, m = m1 + 1 := ⟨m - 1, by omega⟩
                subst hm1e
                have hw1 : IntKind.i64.wrap (((m1 + 1 : Nat) : Int) - 1) = (m1 : Int) := by rw [IntKind.wrap_i64]; omega
                have hw2 : ((m1 + 1 : Nat) : Int) - 1 = (m1 : Int) := by omega
                have hb1 : (m1 : Int) < ((L.length + 1 : Nat) : Int) := by omega
                have hb2 : ((m1 + 1 : Nat) : Int) < ((L.length + 1 : Nat) : Int) := by omega
                rw [Nat.add_sub_cancel] at HRq
                clear hq
                go_wp2_with (first
                  | (with_reducible refine wpList_loadK rfl rfl Try.pairI rfl HRq.out encPB_E ?_)
                  | (refine wpList_storeK encPB_E rfl rfl Try.pairI rfl (x := q) rfl HO.out (i := m1 + 1) rfl (by omega) ?_; intro w5 ho5 hu5))
                go_roundw
                case rel =>
                  refine ⟨m1, _, rfl, by omega, by omega, ho5, ?_, HB.out.trans (hu5.below HB.out.size (fun k hk => by subst hk; exact hg1))⟩
                  intro x hx
                  rcases List.mem_or_eq_of_mem_set hx with hx | hx
                  · exact HL'.out x hx
                  · subst hx; exact HQ.out
                case measure => simp [intOf]
              · obtain rfl : m = j := by omega
                have hge : ¬ ((m : Int) < (m : Int)) := by omega
                have hb2 : (m : Int) < ((L.length + 1 : Nat) : Int) := by omega
                go_wp2_with (first
                  | (with_reducible refine wpList_loadK rfl rfl Try.pairI rfl (range_below HPr.out HB.out hbl) encPB_E ?_)
                  | (refine wpList_storeK encPB_E rfl rfl Try.pairI rfl (x := p) rfl HO.out (i := m) rfl (by omega) ?_; intro w5 ho5 hu5))
                go_roundw
                case rel =>
                  have hsl : (L'.set m p).length = L.length + 1 := by rw [List.length_set, hlen]
                  refine ⟨i + 1, some ⟨g, 0, none⟩, c4, L'.set m p, by rw [hsl], by congr 1, by omega, by omega, by rw [hsl]; exact ho5, ?_, HB.out.trans (hu5.below HB.out.size (fun k hk => by subst hk; exact hg1))⟩
                  intro x hx
                  rcases List.mem_or_eq_of_mem_set hx with hx | hx
                  · exact HL'.out x hx
                  · subst hx; exact ⟨hp1, hp2⟩
                case measure => simp [intOf]; omega
    · obtain rfl : i = n := by omega
      have hge : ¬ ((i : Int) < (i : Int)) := by omega
      rcases hc : decide ((16 : Int) < (L.length : Int)) with _ | _
      · have hc2 : ¬ (16 : Int) < (L.length : Int) := by simpa using hc
        go_wp2_with fail
        refine bodyPost_ret (v := .tuple #[.slice a L.length c, .int .i64 0]) (by simp [results, Try.results48, go_sem]) rfl ?_
        exact ⟨a, c, L, 0, rfl, HO.out, by omega, HL.out, HB.out⟩
      · have hc2 : (16 : Int) < (L.length : Int) := by simpa using hc
        go_wp2_with fail
        refine bodyPost_ret (v := .tuple #[.slice none 0 0, .int .i64 21]) (by simp [results, Try.results48, go_sem]) rfl ?_
        exact ⟨none, 0, [], 21, rfl, OwnK.nil _ _ _ _ _, Nat.zero_le _, (fun p hp => by cases hp), HB.out⟩
end Go.Proofs.Ytpkmdnfkeebgbaa

/- What the Maker's field does. Conditions stand as premises. -/
namespace Go.Proofs.Ytpkmdnfkeebgbaa
open Go.ChangeShapes Go.WideShapes Go.ChangeAt Go.RowKit
set_option linter.unusedVariables false
set_option linter.unusedSimpArgs false

theorem exec_loadB {P : Program} {w : World} {o : Oper} {ρ : Operand → Value} {t : TypeId} {y : Operand} (ho : o.op = .load t y) {n : Nat} (hT : BytesT P t n) {b off : Nat} {B : List Int} (hy : ρ y = .pointer (some ⟨b, off, none⟩)) (hc : AtB w b off B) (lb : B.length = n) :
    (execOp ρ o).run P w = .ok (.value (.agg (B.map (Value.int .u8)).toArray)) w := by
  obtain ⟨d, hu, hd, hi⟩ := hT.row
  unfold execOp
  simp only [ho, hy, Sem.run_bind, run_loadAt_mid w b off t (B.map (Value.int .u8)) d hc hu hd (by rw [hi, List.length_map, lb]), Result.andThen_ok, Sem.run_pure]
theorem Try.knInf : (Try.prog.info? 110).map (fun i => (i.zero, i.size, i.bytes)) = some (some (.agg #[.string ⟨#[]⟩, .int .u64 0, .int .i64 0, .int .i64 0, .slice none 0 0]), 5, 64) := by kernel_rfl
theorem Try.knK : InfoK Try.prog 94 110 5 64 := by
  obtain ⟨i, hi, h0, h1, h2⟩ := info_parts Try.knInf
  exact ⟨Try.underlying94, i, _, hi, h0, h1, h2, rfl⟩
theorem step_strBytes {P : Program} {w : World} {o : Oper} {a : Act} {ops : Array Oper} {Q : Exit → Act → World → Prop} {K : Act → World → Prop} {E : Prop} (hgd : o.guard = none) {src dst e : TypeId} {x : Operand} (ho : o.op = .convert src dst x) (hs : P.underlying src = some .string) (hd : P.underlying dst = some (.slice e)) (he : P.underlying e = some (.int .u8))
    {s : ByteArray} (hx : a.eval x = .string s) (hsz : s.size ≤ 100000)
    (h : ∀ a' c' w', RdB w' a' s.size c' (strL s) → Below w.heap.size w w' → (∀ x, a' = some x → w.heap.size ≤ x.block ∧ x.block < w'.heap.size) → K (a.put o.dst (.slice a' s.size c')) w') :
    if Region.wanted o (yielded ops a.tmps) = true then Oper.wp P o a w K Q else E := by
  have hw : Region.wanted o (yielded ops a.tmps) = true := by simp [Region.wanted, hgd]
  rw [if_pos hw]
  exact wp_strBytes (u := .string) ho hs hd he hx hsz h
theorem MI.file {base M D F : Nat} {kd : Bool} {E : Nat} {x : Mk} {w : World} (h : MI base M D F kd E x w) : ∃ B, IsB B ∧ B.length = 16 ∧ AtB w M 0 B := by
  obtain ⟨B, h1, h2, h3⟩ := h.cfg.file
  exact ⟨B, h1, h2, row_range (o := 0) h.row B (fun j v hv => by rw [Nat.zero_add]; exact mkL_cfg h.cfg.len j v (h3 j v hv))⟩
theorem putField_len (h0 : Int) (s : ByteArray) : (putO 2 (numsL [h0, 0, 0] ++ strL s)).length = 40 + s.size + (8 - s.size % 8) % 8 := by
  unfold putO
  rw [if_pos (by omega), objL_length, List.length_append, numsL_length, strL_length]
  simp
  omega
theorem putField_isB (h0 : Int) (s : ByteArray) : IsB (putO 2 (numsL [h0, 0, 0] ++ strL s)) := by
  unfold putO
  rw [if_pos (by omega)]
  exact objL_isB (by omega) ((numsL_isB _).append (strL_isB s))
/-- A name's place; it may have been made. -/
def FieldE (base M D F : Nat) (kd : Bool) (E : Nat) (x : Mk) (w : World) (e : Ending) (w' : World) : Prop :=
  ∃ (p : Nat) (x' : Mk), e = .returned (.int .u64 (p : Int)) ∧ p + 40 ≤ x'.bl.length ∧ MI base M D F kd E x' w' ∧ Step M x w x' w' ∧ x'.d = x.d ∧ x'.ds = x.ds ∧ x'.m = x.m ∧ x'.ml = x.ml ∧ FsOK x'.bl.length F x'.fs ∧ x'.fs.length ≤ x.fs.length + 1 ∧
    x.bl.length ≤ x'.bl.length ∧ x'.bl.length ≤ x.bl.length + 48 ∧ x'.bl.length % 8 = x.bl.length % 8

set_option maxRecDepth 100000 in
set_option maxHeartbeats 8000000 in
theorem field_lo {base M D F : Nat} {kd : Bool} {E : Nat} {x : Mk} {w : World} (h : MI base M D F kd E x w) (s : ByteArray) (hs : s.size ≤ 8) (hF : FsOK x.bl.length F x.fs) (hfn : x.fs.length ≤ 1000) (hl : x.bl.length ≤ 90000) (hT : 304 + 16 * D + 16 * F ≤ x.bl.length) (hb : base ≤ w.heap.size) :
    Calls Try.prog 64 #[.pointer (some ⟨M, 0, none⟩), .string s] w (FieldE base M D F kd E x w) := by
  have H := Lib.hid h
  have HFs := Lib.hid hF
  have hfl : x.fs.length = x.f.2.1 := h.fO.1
  clear h hF
  go_enter Try.func64, Try.ntmps64
  go_wp2_with fail
  go_loopw [5] (fun i_ wr => ∃ i : Nat, i_ = .int .i64 (i : Int) ∧ i ≤ x.fs.length ∧ wr = w) (fun i_ _ => x.fs.length - (intOf i_).toNat)
  case atStart => exact ⟨0, rfl, Nat.zero_le _, rfl⟩
  case round =>
    obtain ⟨i, rfl, hi, rfl⟩ := hrel
    have cf := H.out.cf
    by_cases hlt : i < x.f.2.1
    · have hlt' : (i : Int) < (x.f.2.1 : Int) := by omega
      have hi0 : (0 : Int) ≤ (i : Int) := by omega
      obtain ⟨b, off, hab, hbl, hcs⟩ := (H.out.fO.rd encKn_E).at (by omega)
      obtain ⟨y, hy⟩ : ∃ y, x.fs[i]? = some y := ⟨_, List.getElem?_eq_getElem (by omega)⟩
      have hyp := HFs.out y (List.mem_of_getElem? hy)
      have c0 : wr.cell? ⟨b, off + i * 5, none⟩ = some (.string y.text) := hcs i y hy 0 _ rfl
      have c1 : wr.cell? ⟨b, off + i * 5 + 1, none⟩ = some (.int .u64 (y.pl : Int)) := by rw [Nat.add_assoc]; exact hcs i y hy 1 _ rfl
      rw [hab] at cf
      clear hcs hy hab
      rcases he : (y.text.toList == s.toList) with _ | _
      · go_wp2_with fail
        go_roundw
        case rel => exact ⟨i + 1, by congr 1, by omega, trivial⟩
        case measure => simp [intOf]; omega
      · go_wp2_with fail
        go_ret
        exact ⟨y.pl, x, rfl, by omega, H.out, Step.refl _ _ _, rfl, rfl, rfl, rfl, HFs.out, by omega, Nat.le_refl _, by omega, rfl⟩
    · obtain rfl : i = x.fs.length := by omega
      have hge : ¬ ((x.f.2.1 : Int) < (x.f.2.1 : Int)) := by omega
      have hge2 : ¬ ((x.fs.length : Int) < (x.f.2.1 : Int)) := by omega
      go_upto_region 6 with fail
      obtain ⟨B, hBB, hBl, hBA⟩ := H.out.file
      have HBB := Lib.hid hBB
      have HBl := Lib.hid hBl
      have hC : wr.drew.cell? ⟨M, 51, none⟩ = some (.bool kd) ∧ AtB wr.drew M 0 B := ⟨H.out.cK, hBA⟩
      have hMl : M < wr.drew.heap.size := lt_of_heap H.out.row
      have HBd := Lib.hid (below_drew wr)
      clear hBA cf hBB hBl
      refine wp_region_held (S := fun w' => w'.cell? ⟨M, 51, none⟩ = some (.bool kd) ∧ AtB w' M 0 B) (by kernel_rfl) ?_
      change wpAnyH _ _ _ _ _ _ _ _ wr.drew
      generalize wr.drew = wd at hC hMl HBd ⊢
      refine held_take 0 (d := some 36) (v := (.pointer (some ⟨M, 0, none⟩))) rfl rfl (by kernel_rfl) (by kernel_rfl) (by kernel_rfl) (fun _ _ _ h => h) hC (by kernel_rfl) (fun w hSw => by obtain ⟨x0, x1⟩ := hSw; go_simp) ?_
      try simp only [Act.put, List.setIfInBounds_toArray, List.set_cons_zero, List.set_cons_succ]
      refine held_take 1 (d := some 37) (v := (.pointer (some ⟨M, 0, none⟩))) rfl rfl (by kernel_rfl) (by kernel_rfl) (by kernel_rfl) (fun _ _ _ h => h) hC (by kernel_rfl) (fun w hSw => by obtain ⟨x0, x1⟩ := hSw; go_simp) ?_
      try simp only [Act.put, List.setIfInBounds_toArray, List.set_cons_zero, List.set_cons_succ]
      refine held_take 2 (d := some 38) (v := (.pointer (some ⟨M, 0, none⟩))) rfl rfl (by kernel_rfl) (by kernel_rfl) (by kernel_rfl) (fun _ _ _ h => h) hC (by kernel_rfl) (fun w hSw => by obtain ⟨x0, x1⟩ := hSw; go_simp) ?_
      try simp only [Act.put, List.setIfInBounds_toArray, List.set_cons_zero, List.set_cons_succ]
      refine held_take 3 (d := some 39) (v := (.pointer (some ⟨M, 51, none⟩))) rfl rfl (by kernel_rfl) (by kernel_rfl) (by kernel_rfl) (fun _ _ _ h => h) hC (by kernel_rfl) (fun w hSw => by obtain ⟨x0, x1⟩ := hSw; go_simp) ?_
      try simp only [Act.put, List.setIfInBounds_toArray, List.set_cons_zero, List.set_cons_succ]
      refine held_take 4 (d := some 40) (v := (.bool kd)) rfl rfl (by kernel_rfl) (by kernel_rfl) (by kernel_rfl) (fun _ _ _ h => h) hC (by kernel_rfl) (fun w hSw => by obtain ⟨x0, x1⟩ := hSw; go_simp) ?_
      try simp only [Act.put, List.setIfInBounds_toArray, List.set_cons_zero, List.set_cons_succ]
      refine held_take 5 (d := some 41) (v := (.pointer (some ⟨M, 0, none⟩))) rfl rfl (by kernel_rfl) (by kernel_rfl) (by kernel_rfl) (fun _ _ _ h => h) hC (by kernel_rfl) (fun w hSw => by obtain ⟨x0, x1⟩ := hSw; go_simp) ?_
      try simp only [Act.put, List.setIfInBounds_toArray, List.set_cons_zero, List.set_cons_succ]
      refine held_take 6 (d := some 42) (v := (.pointer (some ⟨M, 0, none⟩))) rfl rfl (by kernel_rfl) (by kernel_rfl) (by kernel_rfl) (fun _ _ _ h => h) hC (by kernel_rfl) (fun w hSw => by obtain ⟨x0, x1⟩ := hSw; go_simp) ?_
      try simp only [Act.put, List.setIfInBounds_toArray, List.set_cons_zero, List.set_cons_succ]
      refine held_take 7 (d := some 43) (v := (.pointer (some ⟨M, 0, none⟩))) rfl rfl (by kernel_rfl) (by kernel_rfl) (by kernel_rfl) (fun _ _ _ h => h) hC (by kernel_rfl) (fun w hSw => by obtain ⟨x0, x1⟩ := hSw; go_simp) ?_
      try simp only [Act.put, List.setIfInBounds_toArray, List.set_cons_zero, List.set_cons_succ]
      refine held_take 8 (d := some 44) (v := (.pointer (some ⟨M, 0, none⟩))) rfl rfl (by kernel_rfl) (by kernel_rfl) (by kernel_rfl) (fun _ _ _ h => h) hC (by kernel_rfl) (fun w hSw => by obtain ⟨x0, x1⟩ := hSw; go_simp) ?_
      try simp only [Act.put, List.setIfInBounds_toArray, List.set_cons_zero, List.set_cons_succ]
      refine held_take 9 (d := some 45) (v := (.agg (B.map (Value.int .u8)).toArray)) rfl rfl (by kernel_rfl) (by kernel_rfl) (by kernel_rfl) (fun _ _ _ h => h) hC (by kernel_rfl) (fun w hSw => by exact exec_loadB rfl Try.idT rfl hSw.2 HBl.out) ?_
      try simp only [Act.put, List.setIfInBounds_toArray, List.set_cons_zero, List.set_cons_succ]
      refine held_take 10 (d := some 46) (v := (.string s)) rfl rfl (by kernel_rfl) (by kernel_rfl) (by kernel_rfl) (fun _ _ _ h => h) hC (by kernel_rfl) (fun w hSw => by obtain ⟨x0, x1⟩ := hSw; go_simp) ?_
      try simp only [Act.put, List.setIfInBounds_toArray, List.set_cons_zero, List.set_cons_succ]
      refine held_one 11 rfl (by kernel_rfl) (fun K hK => ?_)
      refine step_strBytes (s := s) rfl rfl Try.underlying9 Try.underlying22 Try.underlying5 rfl (by omega) ?_
      intro a4 c4 w4 hr4 hb4 hf4
      have hC4 : w4.cell? ⟨M, 51, none⟩ = some (.bool kd) ∧ AtB w4 M 0 B := ⟨bcell hb4 hMl hC.1, range_below hC.2 hb4 hMl⟩
      have hM4 : M < w4.heap.size := Nat.lt_of_lt_of_le hMl hb4.size
      refine hK _ _ hC4 ?_
      clear hK K
      try simp only [Act.put, List.setIfInBounds_toArray, List.set_cons_zero, List.set_cons_succ]
      refine held_one 12 rfl (by kernel_rfl) (fun K hK => ?_)
      go_simp
      go_at_call 52
      refine (hashof_lo kd B _ _ _ (strL s) _ HBB.out HBl.out hr4 (by omega)).mono ?_
      rintro e w5 ⟨v, rfl, hv, hb5⟩
      have hC5 : w5.cell? ⟨M, 51, none⟩ = some (.bool kd) ∧ AtB w5 M 0 B := ⟨bcell hb5 hM4 hC4.1, range_below hC4.2 hb5 hM4⟩
      have HB5 := Lib.hid (HBd.out.trans ((hb4.mono HBd.out.size).trans (hb5.mono (Nat.le_trans HBd.out.size hb4.size))))
      have HM5 := Lib.hid (H.out.below HB5.out)
      have HS5 := Lib.hid (Step.below (M := M) (x := x) HB5.out)
      clear hr4 hb4 hf4 hb5 hC hMl HBd hM4
      go_simp
      refine hK _ _ hC5 ?_
      clear hK K hC4
      try simp only [Act.put, List.setIfInBounds_toArray, List.set_cons_zero, List.set_cons_succ]
      refine held_take 13 (d := some 6) (v := (.int .u64 v)) rfl rfl (by kernel_rfl) (by kernel_rfl) (by kernel_rfl) (fun _ _ _ h => h) hC5 (by kernel_rfl) (fun w hSw => by clear hSw; go_simp) ?_
      try simp only [Act.put, List.setIfInBounds_toArray, List.set_cons_zero, List.set_cons_succ]
      refine wpAnyH_done (by kernel_rfl) ?_ _
      clear hC5
      have hpl := putField_len v s
      have HPB := Lib.hid (putField_isB v s)
      have HPF := Lib.hid (fun (aq : Option Addr) (cq : Nat) (w' : World) (hq : RdB w' aq s.size cq (strL s)) => refputfield_any v 0 0 aq s.size cq (strL s) w' hq (by omega) hv ⟨by omega, by omega⟩ ⟨by omega, by omega⟩)
      unfold NewB at HPF
      rw [hpl] at HPF
      generalize putO 2 (numsL [v, 0, 0] ++ strL s) = PF at HPF hpl HPB
      obtain ⟨N, hN⟩ : ∃ N, 40 + s.size + (8 - s.size % 8) % 8 = N := ⟨_, rfl⟩
      have hN1 : N ≤ 48 ∧ N % 8 = 0 ∧ 40 ≤ N := by omega
      rw [hN] at HPF hpl
      have Hpl := Lib.hid hpl
      clear hN hpl
      obtain ⟨hN2, hN3, hN4⟩ := hN1
      have hFr := H.out.cfg.fr
      have hwF : IntKind.u64.wrap (F : Int) = (F : Int) := by rw [IntKind.wrap_u64]; omega
      have hF0 : ¬ (F : Int) = 0 := by omega
      obtain ⟨S, hS, hSF⟩ : ∃ S : Nat, Int.tmod v (F : Int) = (S : Int) ∧ S < F := by
        obtain ⟨V, hV⟩ := Int.eq_ofNat_of_zero_le hv.1
        refine ⟨V % F, ?_, Nat.mod_lt _ (by omega)⟩
        rw [hV]; rfl
      have hwS : IntKind.u64.wrap (S : Int) = (S : Int) := by rw [IntKind.wrap_u64]; omega
      have hwS2 : IntKind.i64.wrap (S : Int) = (S : Int) := by rw [IntKind.wrap_i64]; omega
      go_upto_region 9 with (first
        | (with_reducible refine wpList_strBytes rfl rfl Try.underlying9 Try.underlying22 Try.underlying5 rfl (by omega) ?_; intro a6 c6 w6 hr6 hb6 hf6; have HR6 := Lib.hid hr6; have HB6 := Lib.hid (HB5.out.trans (hb6.mono HB5.out.size)); clear hr6 hb6 hf6)
        | (go_at_call 72; go_loud (refine (HPF.out _ _ _ HR6.out).mono ?_; rintro e w7 ⟨a7, c7, rfl, ho7, hb7⟩; have HB7 := Lib.hid (HB6.out.trans (hb7.mono HB6.out.size)); have HR7 := Lib.hid ho7.rd; have HM7 := Lib.hid (H.out.below HB7.out); clear ho7 hb7))
        | (go_at_call 53; go_loud (refine (object_lo HM7.out _ _ _ PF HR7.out (by omega) (by omega) (Nat.le_trans hb HB7.out.size)).mono ?_; rintro e w8 ⟨rfl, b8, hd8, hm8, hu8, hn8⟩; have HM8 := Lib.hid hm8; have HS8 := Lib.hid ((Step.below (M := M) (x := x) HB7.out).trans (Step.ofB (bl := x.bl ++ PF) (hd := hd8) (dp := x.dp) (b := b8) hu8 hn8)); have c49 := hm8.cF; clear hm8 hu8 hn8)))
      clear c49 HB5 HM5 HS5 HB6 HR6 HB7 HR7 HM7 HPF HPB hwF hF0 hS
      have HL8 := Lib.hid (show (x.bl ++ PF).length = x.bl.length + N by rw [List.length_append, Hpl.out])
      have HM9 := Lib.hid (HM8.out.below (below_drew w8))
      have HS9 := Lib.hid (HS8.out.trans (Step.below (below_drew w8)))
      have hC : w8.drew.cell? ⟨M, 145, none⟩ = some (.slice x.f.1 x.f.2.1 x.f.2.2) ∧ w8.drew.cell? ⟨M, 123, none⟩ = some (.int .u64 (304 + 16 * (D : Int))) ∧ w8.drew.frozen? ⟨M, 142, none⟩ = false := ⟨HM9.out.cf, HM9.out.cNk 4 _ (fun Ns h => h.n4), HM9.out.free 142⟩
      have hc9 := HM9.out.cdp
      refine wp_region_held (S := fun w' => w'.cell? ⟨M, 145, none⟩ = some (.slice x.f.1 x.f.2.1 x.f.2.2) ∧ w'.cell? ⟨M, 123, none⟩ = some (.int .u64 (304 + 16 * (D : Int))) ∧ w'.frozen? ⟨M, 142, none⟩ = false) (by kernel_rfl) ?_
      change wpAnyH _ _ _ _ _ _ _ _ w8.drew
      generalize w8.drew = w9 at hC HM9 HS9 hc9 ⊢
      clear HM8 HS8
      refine held_take 0 (d := some 65) (v := (.pointer (some ⟨M, 0, none⟩))) rfl rfl (by kernel_rfl) (by kernel_rfl) (by kernel_rfl) (fun _ _ _ h => h) hC (by kernel_rfl) (fun w hSw => by obtain ⟨x1, x2, x3⟩ := hSw; go_simp) ?_
      try simp only [Act.put, List.setIfInBounds_toArray, List.set_cons_zero, List.set_cons_succ]
      refine held_take 1 (d := some 66) (v := (.pointer (some ⟨M, 0, none⟩))) rfl rfl (by kernel_rfl) (by kernel_rfl) (by kernel_rfl) (fun _ _ _ h => h) hC (by kernel_rfl) (fun w hSw => by obtain ⟨x1, x2, x3⟩ := hSw; go_simp) ?_
      try simp only [Act.put, List.setIfInBounds_toArray, List.set_cons_zero, List.set_cons_succ]
      refine held_take 2 (d := some 67) (v := (.pointer (some ⟨M, 0, none⟩))) rfl rfl (by kernel_rfl) (by kernel_rfl) (by kernel_rfl) (fun _ _ _ h => h) hC (by kernel_rfl) (fun w hSw => by obtain ⟨x1, x2, x3⟩ := hSw; go_simp) ?_
      try simp only [Act.put, List.setIfInBounds_toArray, List.set_cons_zero, List.set_cons_succ]
      refine held_take 3 (d := some 68) (v := (.pointer (some ⟨M, 142, none⟩))) rfl rfl (by kernel_rfl) (by kernel_rfl) (by kernel_rfl) (fun _ _ _ h => h) hC (by kernel_rfl) (fun w hSw => by obtain ⟨x1, x2, x3⟩ := hSw; go_simp) ?_
      try simp only [Act.put, List.setIfInBounds_toArray, List.set_cons_zero, List.set_cons_succ]
      refine held_take 5 (d := some 70) (v := (.pointer (some ⟨M, 0, none⟩))) rfl rfl (by kernel_rfl) (by kernel_rfl) (by kernel_rfl) (fun _ _ _ h => h) hC (by kernel_rfl) (fun w hSw => by obtain ⟨x1, x2, x3⟩ := hSw; go_simp) ?_
      try simp only [Act.put, List.setIfInBounds_toArray, List.set_cons_zero, List.set_cons_succ]
      refine held_take 6 (d := some 71) (v := (.pointer (some ⟨M, 0, none⟩))) rfl rfl (by kernel_rfl) (by kernel_rfl) (by kernel_rfl) (fun _ _ _ h => h) hC (by kernel_rfl) (fun w hSw => by obtain ⟨x1, x2, x3⟩ := hSw; go_simp) ?_
      try simp only [Act.put, List.setIfInBounds_toArray, List.set_cons_zero, List.set_cons_succ]
      refine held_take 7 (d := some 72) (v := (.pointer (some ⟨M, 0, none⟩))) rfl rfl (by kernel_rfl) (by kernel_rfl) (by kernel_rfl) (fun _ _ _ h => h) hC (by kernel_rfl) (fun w hSw => by obtain ⟨x1, x2, x3⟩ := hSw; go_simp) ?_
      try simp only [Act.put, List.setIfInBounds_toArray, List.set_cons_zero, List.set_cons_succ]
      refine held_take 8 (d := some 73) (v := (.pointer (some ⟨M, 145, none⟩))) rfl rfl (by kernel_rfl) (by kernel_rfl) (by kernel_rfl) (fun _ _ _ h => h) hC (by kernel_rfl) (fun w hSw => by obtain ⟨x1, x2, x3⟩ := hSw; go_simp) ?_
      try simp only [Act.put, List.setIfInBounds_toArray, List.set_cons_zero, List.set_cons_succ]
      refine held_take 9 (d := some 74) (v := (.slice x.f.1 x.f.2.1 x.f.2.2)) rfl rfl (by kernel_rfl) (by kernel_rfl) (by kernel_rfl) (fun _ _ _ h => h) hC (by kernel_rfl) (fun w hSw => by obtain ⟨x1, x2, x3⟩ := hSw; go_simp) ?_
      try simp only [Act.put, List.setIfInBounds_toArray, List.set_cons_zero, List.set_cons_succ]
      refine held_take 10 (d := some 75) (v := (.pointer (some ⟨M, 0, none⟩))) rfl rfl (by kernel_rfl) (by kernel_rfl) (by kernel_rfl) (fun _ _ _ h => h) hC (by kernel_rfl) (fun w hSw => by obtain ⟨x1, x2, x3⟩ := hSw; go_simp) ?_
      try simp only [Act.put, List.setIfInBounds_toArray, List.set_cons_zero, List.set_cons_succ]
      refine held_take 11 (d := some 76) (v := (.pointer (some ⟨M, 0, none⟩))) rfl rfl (by kernel_rfl) (by kernel_rfl) (by kernel_rfl) (fun _ _ _ h => h) hC (by kernel_rfl) (fun w hSw => by obtain ⟨x1, x2, x3⟩ := hSw; go_simp) ?_
      try simp only [Act.put, List.setIfInBounds_toArray, List.set_cons_zero, List.set_cons_succ]
      refine held_take 12 (d := some 77) (v := (.pointer (some ⟨M, 52, none⟩))) rfl rfl (by kernel_rfl) (by kernel_rfl) (by kernel_rfl) (fun _ _ _ h => h) hC (by kernel_rfl) (fun w hSw => by obtain ⟨x1, x2, x3⟩ := hSw; go_simp) ?_
      try simp only [Act.put, List.setIfInBounds_toArray, List.set_cons_zero, List.set_cons_succ]
      refine held_take 13 (d := some 78) (v := (.pointer (some ⟨M, 119, none⟩))) rfl rfl (by kernel_rfl) (by kernel_rfl) (by kernel_rfl) (fun _ _ _ h => h) hC (by kernel_rfl) (fun w hSw => by obtain ⟨x1, x2, x3⟩ := hSw; go_simp) ?_
      try simp only [Act.put, List.setIfInBounds_toArray, List.set_cons_zero, List.set_cons_succ]
      refine held_take 14 (d := some 79) (v := (.pointer (some ⟨M, 123, none⟩))) rfl rfl (by kernel_rfl) (by kernel_rfl) (by kernel_rfl) (fun _ _ _ h => h) hC (by kernel_rfl) (fun w hSw => by obtain ⟨x1, x2, x3⟩ := hSw; go_simp) ?_
      try simp only [Act.put, List.setIfInBounds_toArray, List.set_cons_zero, List.set_cons_succ]
      refine held_take 15 (d := some 80) (v := (.int .u64 (304 + 16 * (D : Int)))) rfl rfl (by kernel_rfl) (by kernel_rfl) (by kernel_rfl) (fun _ _ _ h => h) hC (by kernel_rfl) (fun w hSw => by obtain ⟨x1, x2, x3⟩ := hSw; go_simp) ?_
      try simp only [Act.put, List.setIfInBounds_toArray, List.set_cons_zero, List.set_cons_succ]
      refine held_take 16 (d := some 81) (v := (.int .u64 (x.bl.length : Int))) rfl rfl (by kernel_rfl) (by kernel_rfl) (by kernel_rfl) (fun _ _ _ h => h) hC (by kernel_rfl) (fun w hSw => by obtain ⟨x1, x2, x3⟩ := hSw; go_simp) ?_
      try simp only [Act.put, List.setIfInBounds_toArray, List.set_cons_zero, List.set_cons_succ]
      refine held_take 17 (d := some 82) (v := (.int .i64 (S : Int))) rfl rfl (by kernel_rfl) (by kernel_rfl) (by kernel_rfl) (fun _ _ _ h => h) hC (by kernel_rfl) (fun w hSw => by obtain ⟨x1, x2, x3⟩ := hSw; go_simp) ?_
      try simp only [Act.put, List.setIfInBounds_toArray, List.set_cons_zero, List.set_cons_succ]
      have HH := hang_lo HM9.out x.f.1 x.f.2.1 x.f.2.2 x.fs (HM9.out.fO.rd encKn_E) (fun k hk => by have := (HFs.out k hk).1; show k.pl + 32 ≤ (x.bl ++ PF).length; rw [HL8.out]; omega) (by omega) (304 + 16 * D) S (by show _ ≤ (x.bl ++ PF).length; rw [HL8.out]; omega) (x.bl.length : Int) ⟨by omega, by omega⟩ (by show (x.bl ++ PF).length ≤ _; rw [HL8.out]; omega)
      rw [show ((304 + 16 * D : Nat) : Int) = 304 + 16 * (D : Int) by omega] at HH
      have HH := Lib.hid HH
      refine held_two 4 18 rfl rfl (by kernel_rfl) (fun K hK => ?_) (fun K hK => ?_)
      · go_simp
        refine hK _ _ hC ?_
        clear hK K
        try simp only [Act.put, List.setIfInBounds_toArray, List.set_cons_zero, List.set_cons_succ]
        refine held_one 18 rfl (by kernel_rfl) (fun K hK => ?_)
        go_simp
        go_at_call 63
        refine HH.out.mono ?_
        rintro e w10 ⟨k, rfl, hk, l10, hl10, hm10, hu10⟩
        have hC10 : w10.cell? ⟨M, 145, none⟩ = some (.slice x.f.1 x.f.2.1 x.f.2.2) ∧ w10.cell? ⟨M, 123, none⟩ = some (.int .u64 (304 + 16 * (D : Int))) ∧ w10.frozen? ⟨M, 142, none⟩ = false := ⟨hm10.cf, hm10.cNk 4 _ (fun Ns h => h.n4), hm10.free 142⟩
        have hc10 := hm10.cdp
        have HM10 := Lib.hid hm10
        have HU10 := Lib.hid hu10
        clear HH hm10 hu10
        go_simp
        refine hK _ _ hC10 ?_
        clear hK K
        try simp only [Act.put, List.setIfInBounds_toArray, List.set_cons_zero, List.set_cons_succ]
        have hf10 := hC10.2.2
        refine held_one 19 rfl (by kernel_rfl) (fun K hK => ?_)
        go_simp
        refine hK _ _ hC10 ?_
        clear hK K hC hc9
        try simp only [Act.put, List.setIfInBounds_toArray, List.set_cons_zero, List.set_cons_succ]
        refine held_take 20 (d := some 85) (v := (.pointer (some ⟨M, 0, none⟩))) rfl rfl (by kernel_rfl) (by kernel_rfl) (by kernel_rfl) (fun _ _ _ h => h) hC10 (by kernel_rfl) (fun w hSw => by clear hSw; go_simp) ?_
        try simp only [Act.put, List.setIfInBounds_toArray, List.set_cons_zero, List.set_cons_succ]
        refine held_take 21 (d := some 86) (v := (.pointer (some ⟨M, 142, none⟩))) rfl rfl (by kernel_rfl) (by kernel_rfl) (by kernel_rfl) (fun _ _ _ h => h) hC10 (by kernel_rfl) (fun w hSw => by clear hSw; go_simp) ?_
        try simp only [Act.put, List.setIfInBounds_toArray, List.set_cons_zero, List.set_cons_succ]
        refine held_one 22 rfl (by kernel_rfl) (fun K hK => ?_)
        go_simp
        have hdp := HM10.out.dp
        have hd2 : U64 (if x.dp < (k : Int) then (k : Int) else x.dp) := by
          split
          · exact ⟨by omega, by omega⟩
          · exact hdp
        have hM11 := HM10.out.setDp _ hd2
        have HU11 := Lib.hid ((HU10.out.mono (G := fun q => q = M ∨ q ∈ blk b8.1) (fun q _ hq => .inr hq)).trans (Upd.setCell (F := (· = M)) w10 ⟨M, 142, none⟩ (.int .u64 (if x.dp < (k : Int) then (k : Int) else x.dp)) rfl) (fun q _ hq => .inl hq))
        generalize (if x.dp < (k : Int) then (k : Int) else x.dp) = dp2 at hM11 hd2 HU11 ⊢
        refine hK _ _ ⟨hM11.cf, hM11.cNk 4 _ (fun Ns h => h.n4), hM11.free 142⟩ ?_
        clear hK K hC10 hc10 hf10 hdp
        have HM11 := Lib.hid hM11
        clear hM11
        generalize w10.setCell ⟨M, 142, none⟩ (.int .u64 dp2) = w11 at HM11 HU11 ⊢
        try simp only [Act.put, List.setIfInBounds_toArray, List.set_cons_zero, List.set_cons_succ]
        refine wpAnyH_done (by kernel_rfl) ?_ _
        have HS11 := Lib.hid (HS9.out.trans (Step.ofB (bl := l10) (hd := hd8) (dp := dp2) (b := b8) (x := { x with b := b8, bl := x.bl ++ PF, hd := hd8 }) HU11.out (fun q hq => .inl hq)))
        obtain ⟨v16, hv16, hu16⟩ := HM11.out.cN 16 (by omega)
        have f16 := HM11.out.free 135
        have hM12 := HM11.out.setN 16 (IntKind.u64.wrap (v16 + 1)) (by omega) (by omega) (by omega) (by omega) (by omega) (by omega) (by omega) ⟨by rw [IntKind.wrap_u64]; omega, by rw [IntKind.wrap_u64]; omega⟩
        have HU12 := Lib.hid (Upd.setCell (F := fun q => q = M ∨ q ∈ blk b8.1) w11 ⟨M, 135, none⟩ (.int .u64 (IntKind.u64.wrap (v16 + 1))) (.inl rfl))
        simp only [Nat.reduceAdd] at hv16 hM12
        obtain ⟨v160, v161⟩ := hu16
        have HM12 := Lib.hid hM12
        clear hM12 HM10 HU10 HU11 HS9 HM9
        go_upto_region 10 with fail
        go_region
        have HM13 := Lib.hid (HM12.out.below (below_drew _))
        have HU13 := Lib.hid HU12.out.drew
        generalize (w11.setCell ⟨M, 135, none⟩ (.int .u64 (IntKind.u64.wrap (v16 + 1)))).drew = w13 at HM13 HU13 ⊢
        have HS13 := Lib.hid (HS11.out.trans (Step.ofB (bl := l10) (hd := hd8.set 83 (.int .u64 (IntKind.u64.wrap (v16 + 1)))) (dp := dp2) (b := b8) (x := { x with b := b8, bl := l10, hd := hd8, dp := dp2 }) HU13.out (fun q hq => .inl hq)))
        clear hv16 f16 HM12 HU12 HM11 HS11
        have cf13 := HM13.out.cf
        have f145 := HM13.out.free 145
        have HB14 := Lib.hid (below_alloc w13 (.cells #[.string s, .int .u64 (x.bl.length : Int), .int .i64 (S : Int), .int .i64 0, .slice none 0 0] 110))
        have HR14 := Lib.hid (RdK.one encKn_E 110 w13 ⟨s, x.bl.length, S, 0, (none, 0, 0), []⟩ #[.string s, .int .u64 (x.bl.length : Int), .int .i64 (S : Int), .int .i64 0, .slice none 0 0] rfl)
        have HM14 := Lib.hid (HM13.out.below HB14.out)
        have hz14 : base ≤ (w13.alloc (.cells #[.string s, .int .u64 (x.bl.length : Int), .int .i64 (S : Int), .int .i64 0, .slice none 0 0] 110)).heap.size := by have h1 := (lt_of_heap HM14.out.row); have := HM14.out.bM; omega
        go_upto_region 12 with (at_builtin; go_must (refine wpList_appK encKn_E rfl rfl Try.knK rfl rfl HM14.out.fO HR14.out (by omega) (by omega) (by omega) hz14 ?_); intro a15 c15 w15 ho15 hu15 hn15; have c15M := ucell hu15 HM14.out.nf HM14.out.cf; have f15M := ufree hu15 (lt_of_heap HM14.out.row) HM14.out.nf (HM14.out.free 145))
        have HM16 := Lib.hid (HM14.out.newF ho15 hu15 hn15)
        have HSF := Lib.hid ((Step.below (M := M) (x := { x with b := b8, bl := l10, hd := hd8.set 83 (.int .u64 (IntKind.u64.wrap (v16 + 1))), dp := dp2 }) HB14.out).trans (Step.ofF (x := { x with b := b8, bl := l10, hd := hd8.set 83 (.int .u64 (IntKind.u64.wrap (v16 + 1))), dp := dp2 }) (f := (a15, x.f.2.1 + 1, c15)) (fs := x.fs ++ [⟨s, x.bl.length, S, 0, (none, 0, 0), []⟩]) ((hu15.mono (G := fun q => q ∈ blk x.f.1 ∨ q = M) (fun q _ hq => .inl hq)).trans (Upd.setCell (F := (· = M)) w15 ⟨M, 145, none⟩ (.slice a15 (x.f.2.1 + 1) c15) rfl) (fun q _ hq => .inr hq)) hn15))
        have HL10 := Lib.hid (show l10.length = x.bl.length + N from hl10.trans HL8.out)
        clear ho15 hu15 hn15 HM14 HM13 HR14 HB14 cf13 f145 hz14 hl10
        go_wp2_with fail
        go_ret
        have hl10 := HL10.out
        refine ⟨x.bl.length, _, rfl, ?_, HM16.out, HS13.out.trans HSF.out, rfl, rfl, rfl, rfl, ?_, ?_, ?_, ?_, ?_⟩
        · show _ ≤ l10.length; omega
        · intro q hq
          show _ ≤ l10.length ∧ _
          rcases List.mem_append.1 hq with hq | hq
          · have := HFs.out q hq; exact ⟨by omega, this.2⟩
          · rw [List.mem_singleton.1 hq]; exact ⟨by show x.bl.length + 40 ≤ _; omega, hSF⟩
        · show (x.fs ++ [_]).length ≤ _; simp
        · show _ ≤ l10.length; omega
        · show l10.length ≤ _; omega
        · show l10.length % 8 = _; omega
      · go_simp
        go_at_call 63
        refine HH.out.mono ?_
        rintro e w10 ⟨k, rfl, hk, l10, hl10, hm10, hu10⟩
        have hC10 : w10.cell? ⟨M, 145, none⟩ = some (.slice x.f.1 x.f.2.1 x.f.2.2) ∧ w10.cell? ⟨M, 123, none⟩ = some (.int .u64 (304 + 16 * (D : Int))) ∧ w10.frozen? ⟨M, 142, none⟩ = false := ⟨hm10.cf, hm10.cNk 4 _ (fun Ns h => h.n4), hm10.free 142⟩
        have hc10 := hm10.cdp
        have HM10 := Lib.hid hm10
        have HU10 := Lib.hid hu10
        clear HH hm10 hu10
        go_simp
        refine hK _ _ hC10 ?_
        clear hK K
        try simp only [Act.put, List.setIfInBounds_toArray, List.set_cons_zero, List.set_cons_succ]
        refine held_one 4 rfl (by kernel_rfl) (fun K hK => ?_)
        go_simp
        refine hK _ _ hC10 ?_
        clear hK K
        try simp only [Act.put, List.setIfInBounds_toArray, List.set_cons_zero, List.set_cons_succ]
        have hf10 := hC10.2.2
        refine held_one 19 rfl (by kernel_rfl) (fun K hK => ?_)
        go_simp
        refine hK _ _ hC10 ?_
        clear hK K hC hc9
        try simp only [Act.put, List.setIfInBounds_toArray, List.set_cons_zero, List.set_cons_succ]
        refine held_take 20 (d := some 85) (v := (.pointer (some ⟨M, 0, none⟩))) rfl rfl (by kernel_rfl) (by kernel_rfl) (by kernel_rfl) (fun _ _ _ h => h) hC10 (by kernel_rfl) (fun w hSw => by clear hSw; go_simp) ?_
        try simp only [Act.put, List.setIfInBounds_toArray, List.set_cons_zero, List.set_cons_succ]
        refine held_take 21 (d := some 86) (v := (.pointer (some ⟨M, 142, none⟩))) rfl rfl (by kernel_rfl) (by kernel_rfl) (by kernel_rfl) (fun _ _ _ h => h) hC10 (by kernel_rfl) (fun w hSw => by clear hSw; go_simp) ?_
        try simp only [Act.put, List.setIfInBounds_toArray, List.set_cons_zero, List.set_cons_succ]
        refine held_one 22 rfl (by kernel_rfl) (fun K hK => ?_)
        go_simp
        have hdp := HM10.out.dp
        have hd2 : U64 (if x.dp < (k : Int) then (k : Int) else x.dp) := by
          split
          · exact ⟨by omega, by omega⟩
          · exact hdp
        have hM11 := HM10.out.setDp _ hd2
        have HU11 := Lib.hid ((HU10.out.mono (G := fun q => q = M ∨ q ∈ blk b8.1) (fun q _ hq => .inr hq)).trans (Upd.setCell (F := (· = M)) w10 ⟨M, 142, none⟩ (.int .u64 (if x.dp < (k : Int) then (k : Int) else x.dp)) rfl) (fun q _ hq => .inl hq))
        generalize (if x.dp < (k : Int) then (k : Int) else x.dp) = dp2 at hM11 hd2 HU11 ⊢
        refine hK _ _ ⟨hM11.cf, hM11.cNk 4 _ (fun Ns h => h.n4), hM11.free 142⟩ ?_
        clear hK K hC10 hc10 hf10 hdp
        have HM11 := Lib.hid hM11
        clear hM11
        generalize w10.setCell ⟨M, 142, none⟩ (.int .u64 dp2) = w11 at HM11 HU11 ⊢
        try simp only [Act.put, List.setIfInBounds_toArray, List.set_cons_zero, List.set_cons_succ]
        refine wpAnyH_done (by kernel_rfl) ?_ _
        have HS11 := Lib.hid (HS9.out.trans (Step.ofB (bl := l10) (hd := hd8) (dp := dp2) (b := b8) (x := { x with b := b8, bl := x.bl ++ PF, hd := hd8 }) HU11.out (fun q hq => .inl hq)))
        obtain ⟨v16, hv16, hu16⟩ := HM11.out.cN 16 (by omega)
        have f16 := HM11.out.free 135
        have hM12 := HM11.out.setN 16 (IntKind.u64.wrap (v16 + 1)) (by omega) (by omega) (by omega) (by omega) (by omega) (by omega) (by omega) ⟨by rw [IntKind.wrap_u64]; omega, by rw [IntKind.wrap_u64]; omega⟩
        have HU12 := Lib.hid (Upd.setCell (F := fun q => q = M ∨ q ∈ blk b8.1) w11 ⟨M, 135, none⟩ (.int .u64 (IntKind.u64.wrap (v16 + 1))) (.inl rfl))
        simp only [Nat.reduceAdd] at hv16 hM12
        obtain ⟨v160, v161⟩ := hu16
        have HM12 := Lib.hid hM12
        clear hM12 HM10 HU10 HU11 HS9 HM9
        go_upto_region 10 with fail
        go_region
        have HM13 := Lib.hid (HM12.out.below (below_drew _))
        have HU13 := Lib.hid HU12.out.drew
        generalize (w11.setCell ⟨M, 135, none⟩ (.int .u64 (IntKind.u64.wrap (v16 + 1)))).drew = w13 at HM13 HU13 ⊢
        have HS13 := Lib.hid (HS11.out.trans (Step.ofB (bl := l10) (hd := hd8.set 83 (.int .u64 (IntKind.u64.wrap (v16 + 1)))) (dp := dp2) (b := b8) (x := { x with b := b8, bl := l10, hd := hd8, dp := dp2 }) HU13.out (fun q hq => .inl hq)))
        clear hv16 f16 HM12 HU12 HM11 HS11
        have cf13 := HM13.out.cf
        have f145 := HM13.out.free 145
        have HB14 := Lib.hid (below_alloc w13 (.cells #[.string s, .int .u64 (x.bl.length : Int), .int .i64 (S : Int), .int .i64 0, .slice none 0 0] 110))
        have HR14 := Lib.hid (RdK.one encKn_E 110 w13 ⟨s, x.bl.length, S, 0, (none, 0, 0), []⟩ #[.string s, .int .u64 (x.bl.length : Int), .int .i64 (S : Int), .int .i64 0, .slice none 0 0] rfl)
        have HM14 := Lib.hid (HM13.out.below HB14.out)
        have hz14 : base ≤ (w13.alloc (.cells #[.string s, .int .u64 (x.bl.length : Int), .int .i64 (S : Int), .int .i64 0, .slice none 0 0] 110)).heap.size := by have h1 := (lt_of_heap HM14.out.row); have := HM14.out.bM; omega
        go_upto_region 12 with (at_builtin; go_must (refine wpList_appK encKn_E rfl rfl Try.knK rfl rfl HM14.out.fO HR14.out (by omega) (by omega) (by omega) hz14 ?_); intro a15 c15 w15 ho15 hu15 hn15; have c15M := ucell hu15 HM14.out.nf HM14.out.cf; have f15M := ufree hu15 (lt_of_heap HM14.out.row) HM14.out.nf (HM14.out.free 145))
        have HM16 := Lib.hid (HM14.out.newF ho15 hu15 hn15)
        have HSF := Lib.hid ((Step.below (M := M) (x := { x with b := b8, bl := l10, hd := hd8.set 83 (.int .u64 (IntKind.u64.wrap (v16 + 1))), dp := dp2 }) HB14.out).trans (Step.ofF (x := { x with b := b8, bl := l10, hd := hd8.set 83 (.int .u64 (IntKind.u64.wrap (v16 + 1))), dp := dp2 }) (f := (a15, x.f.2.1 + 1, c15)) (fs := x.fs ++ [⟨s, x.bl.length, S, 0, (none, 0, 0), []⟩]) ((hu15.mono (G := fun q => q ∈ blk x.f.1 ∨ q = M) (fun q _ hq => .inl hq)).trans (Upd.setCell (F := (· = M)) w15 ⟨M, 145, none⟩ (.slice a15 (x.f.2.1 + 1) c15) rfl) (fun q _ hq => .inr hq)) hn15))
        have HL10 := Lib.hid (show l10.length = x.bl.length + N from hl10.trans HL8.out)
        clear ho15 hu15 hn15 HM14 HM13 HR14 HB14 cf13 f145 hz14 hl10
        go_wp2_with fail
        go_ret
        have hl10 := HL10.out
        refine ⟨x.bl.length, _, rfl, ?_, HM16.out, HS13.out.trans HSF.out, rfl, rfl, rfl, rfl, ?_, ?_, ?_, ?_, ?_⟩
        · show _ ≤ l10.length; omega
        · intro q hq
          show _ ≤ l10.length ∧ _
          rcases List.mem_append.1 hq with hq | hq
          · have := HFs.out q hq; exact ⟨by omega, this.2⟩
          · rw [List.mem_singleton.1 hq]; exact ⟨by show x.bl.length + 40 ≤ _; omega, hSF⟩
        · show (x.fs ++ [_]).length ≤ _; simp
        · show _ ≤ l10.length; omega
        · show l10.length ≤ _; omega
        · show l10.length % 8 = _; omega
end Go.Proofs.Ytpkmdnfkeebgbaa

/- What the document's own Get computes. Conditions stand as premises. -/
namespace Go.Proofs.Ytpkmdnfkeebgbaa
open Go.ChangeShapes Go.WideShapes Go.ChangeAt Go.RowKit
set_option linter.unusedVariables false

/-! ### Get -/
theorem refget_nat (b off : Nat) (len cap : Nat) (l : List Int) (p n : Nat) (w : World) (hl : l.length = len) (hc : len ≤ 140737488351232) (hb : IsB l) (hcell : ∀ i, i < l.length → w.cell? ⟨b, off + i, none⟩ = some (.int .u8 (l[i]?.getD 0)))
    (hs : okSize n = true) (hp : p + n ≤ len) :
    Calls Try.prog 35 #[.slice (some ⟨b, off, none⟩) len cap, .int .i64 p, .int .i64 n] w fun e w' => e = .returned (.tuple #[.int .u64 (leN ((l.drop p).take n)), .bool true]) ∧ w = w' := by
  have hn0 := okSize_cases hs
  have hn : n ≤ 8 ∧ 1 ≤ n := by omega
  have Hl := Lib.hid hl
  clear hl
  rcases hn0 with h | h | h | h
  all_goals
    first | have t1 : ((n : Int) != 1) = true := by rw [bne_iff_ne]; omega | have t1 : ((n : Int) != 1) = false := by simp [h]
    first | have t2 : ((n : Int) != 2) = true := by rw [bne_iff_ne]; omega | have t2 : ((n : Int) != 2) = false := by simp [h]
    first | have t3 : ((n : Int) != 4) = true := by rw [bne_iff_ne]; omega | have t3 : ((n : Int) != 4) = false := by simp [h]
    first | have t4 : ((n : Int) != 8) = true := by rw [bne_iff_ne]; omega | have t4 : ((n : Int) != 8) = false := by simp [h]
    clear h
    go_enter Try.func35, Try.ntmps35
    go_wp2_with fail
    go_loop [8, 9] (fun v i => ∃ k : Nat, k ≤ n ∧ i = .int .i64 ((n : Int) - 1 - k) ∧ v = .int .u64 (leN ((l.drop (p + (n - k))).take k))) (fun _ i => (intOf i + 1).toNat)
    case atStart => exact ⟨0, Nat.zero_le _, by simp, by simp [leN]⟩
    case round =>
      obtain ⟨k, hk, rfl, rfl⟩ := hrel
      by_cases hlt : k < n
      · have hcj := hcell (p + (n - 1 - k)) (by have := Hl.out; omega)
        have hbj := hb.getD (p + (n - 1 - k))
        have hx := leN_le ((l.drop (p + (n - 1 - k) + 1)).take k) ((hb.drop _).take _) 7 (by simp; omega)
        have hx2 : leN ((l.drop (p + (n - 1 - k) + 1)).take k) ≤ 72057594037927935 := by have := hx.2; simp at this; omega
        have hx1 := hx.1
        have He := Lib.hid (take_succ_drop l (p + (n - 1 - k)) k (by have := Hl.out; omega))
        rw [show p + (n - k) = p + (n - 1 - k) + 1 by omega]
        generalize hgx : leN ((l.drop (p + (n - 1 - k) + 1)).take k) = x at hx1 hx2 ⊢
        have Hx := Lib.hid hgx
        clear hx hcell hgx
        go_wp2
        go_round
        case rel => exact ⟨k + 1, by omega, by rw [show (n : Int) - 1 - k - 1 = n - 1 - (k + 1 : Nat) by omega], by rw [show p + (n - (k + 1)) = p + (n - 1 - k) by omega, He.out, leN, Hx.out, Int.mul_comm, Int.add_comm]⟩
        case measure => simp [intOf]; omega
      · have : k = n := by omega
        subst this
        clear hcell
        go_wp2
        go_ret2
        exact ⟨by simp, rfl⟩

theorem refget_no (a : Option Addr) (len cap : Nat) (p n : Int) (w : World) (hlen : len ≤ 140737488351232) (hp63 : p ≤ 9223372036854775807) (h : okSize n = false ∨ p < 0 ∨ (len : Int) - n < p) :
    Calls Try.prog 35 #[.slice a len cap, .int .i64 p, .int .i64 n] w fun e w' => e = .returned (.tuple #[.int .u64 0, .bool false]) ∧ w = w' := by
  cases hs : okSize n
  · obtain ⟨t1, t2, t3, t4⟩ := okSize_no hs
    clear h hs
    go_enter Try.func35, Try.ntmps35
    go_wp2
    go_ret2
    exact ⟨rfl, rfl⟩
  · have hb : 1 ≤ n ∧ n ≤ 8 := by rcases okSize_cases hs with h | h | h | h <;> omega
    have h' : p < 0 ∨ (len : Int) - n < p := by simpa [hs] using h
    have hn0 := okSize_cases hs
    clear h hs
    rcases hn0 with h | h | h | h
    all_goals
      first | have t1 : ((n : Int) != 1) = true := by rw [bne_iff_ne]; omega | have t1 : ((n : Int) != 1) = false := by simp [h]
      first | have t2 : ((n : Int) != 2) = true := by rw [bne_iff_ne]; omega | have t2 : ((n : Int) != 2) = false := by simp [h]
      first | have t3 : ((n : Int) != 4) = true := by rw [bne_iff_ne]; omega | have t3 : ((n : Int) != 4) = false := by simp [h]
      first | have t4 : ((n : Int) != 8) = true := by rw [bne_iff_ne]; omega | have t4 : ((n : Int) != 8) = false := by simp [h]
      clear h
      by_cases hp : p < 0
      · clear h'
        go_enter Try.func35, Try.ntmps35
        go_wp2
        go_ret2
        exact ⟨rfl, rfl⟩
      · have h2 : (len : Int) - n < p := by omega
        clear h'
        by_cases hp2 : (len : Int) < p
        · go_enter Try.func35, Try.ntmps35
          go_wp2
          go_ret2
          exact ⟨rfl, rfl⟩
        · have h3 : (len : Int) - p < n := by omega
          go_enter Try.func35, Try.ntmps35
          go_wp2
          go_ret2
          exact ⟨rfl, rfl⟩

theorem refget_any (a : Option Addr) (len cap : Nat) (l : List Int) (p n : Int) (w : World) (hr : RdB w a len cap l) (hlen : len ≤ 140737488351232) (hp63 : p ≤ 9223372036854775807) :
    Calls Try.prog 35 #[.slice a len cap, .int .i64 p, .int .i64 n] w fun e w' => e = .returned (.tuple #[.int .u64 (getA l p n), .bool (getB l p n)]) ∧ w = w' := by
  by_cases hg : getB l p n = true
  · have h := hg
    simp only [getB, Bool.and_eq_true, decide_eq_true_eq] at h
    obtain ⟨⟨hs, h0⟩, h1⟩ := h
    rw [getA, if_pos hg, hg]
    obtain ⟨P, rfl⟩ := Int.eq_ofNat_of_zero_le h0
    have hn : n = 1 ∨ n = 2 ∨ n = 4 ∨ n = 8 := okSize_cases hs
    obtain ⟨N, rfl⟩ := Int.eq_ofNat_of_zero_le (show 0 ≤ n by omega)
    have hl := hr.len
    obtain ⟨b, off, rfl, _, hc⟩ := hr.2.at (by omega)
    simp only [Int.toNat_natCast]
    exact refget_nat b off len cap l P N w hl hlen hr.1 (fun i hi => cellInt hc i hi) hs (by omega)
  · rw [getA, if_neg hg, show getB l p n = false by simpa using hg]
    refine refget_no a len cap p n w hlen hp63 ?_
    have hl := hr.len
    simp only [getB, Bool.and_eq_true, decide_eq_true_eq] at hg
    by_cases hs : okSize n = true
    · right
      by_cases h0 : p < 0
      · exact .inl h0
      · right
        have : ¬ (p + n ≤ l.length) := fun hh => hg ⟨⟨hs, by omega⟩, hh⟩
        omega
    · left; simpa using hs

end Go.Proofs.Ytpkmdnfkeebgbaa
