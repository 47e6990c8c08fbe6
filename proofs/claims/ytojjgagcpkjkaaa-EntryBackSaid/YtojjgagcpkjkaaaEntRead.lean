/- What entry.Read computes. Conditions stand as premises. -/
import Derived.Test.YtojjgagcpkjkaaaEntReadT
import Derived.Test.YtojjgagcpkjkaaaStruct
import Derived.Test.YtojjgagcpkjkaaaManual
import Derived.Deep.CutBlock
import Derived.StillTailTactics
namespace Go.Proofs.Ytojjgagcpkjkaaa
open Go.ChangeShapes Go.WideShapes Go.ChangeAt Go.RowKit
set_option linter.unusedVariables false
set_option linter.unusedSimpArgs false

/-- The cells of an entry. -/
def entV (s r m : Int) (B : List Int) (x : Int) (a : Option Addr) (n c : Nat) : Value := .agg ([Value.int .u64 s, Value.int .u64 r, Value.int .u64 m] ++ B.map (Value.int .u8) ++ [Value.int .u64 x, Value.slice a n c]).toArray
def bootOf (l : List Int) (p : Int) : List Int := ((bodyL l p).drop 24).take 16
def itemsOf (l : List Int) (p : Int) : List PR := pairI ((numsOf l p).drop 6) (((numsOf l p).length - 6) / 2)
def zero16 : List Int := List.replicate 16 0
/-- The code of an entry at a place. -/
def entRC (l : List Int) (p : Int) : Int := if entC l p 3 48 16 ≠ 0 then entC l p 3 48 16 else if (numsOf l p).getD 0 0 = 0 then 13 else if riseB (itemsOf l p) = true then 0 else 11
def ReadEE (w : World) (l : List Int) (p C : Int) (e : Ending) (w' : World) : Prop :=
  ∃ s r m B x a1 n1 c1, e = .returned (.tuple #[entV s r m B x a1 n1 c1, .int .i64 C]) ∧ (C = 0 → s = (numsOf l p).getD 0 0 ∧ r = (numsOf l p).getD 1 0 ∧ m = (numsOf l p).getD 2 0 ∧ B = bootOf l p ∧ x = (numsOf l p).getD 5 0 ∧ OwnP 41 w' w.heap.size a1 n1 c1 (itemsOf l p)) ∧
    (C ≠ 0 → s = 0 ∧ r = 0 ∧ m = 0 ∧ B = zero16 ∧ x = 0 ∧ a1 = none ∧ n1 = 0 ∧ c1 = 0) ∧ Below w.heap.size w w'
theorem entV_zero : entV 0 0 0 zero16 0 none 0 0 = .agg #[Value.int .u64 0, Value.int .u64 0, Value.int .u64 0, Value.int .u8 0, Value.int .u8 0, Value.int .u8 0, Value.int .u8 0, Value.int .u8 0, Value.int .u8 0, Value.int .u8 0, Value.int .u8 0, Value.int .u8 0, Value.int .u8 0, Value.int .u8 0, Value.int .u8 0, Value.int .u8 0, Value.int .u8 0, Value.int .u8 0, Value.int .u8 0, Value.int .u64 0, Value.slice none 0 0] := rfl

/-- A refused entry: all zero. -/
theorem readE_no (w w' : World) (l : List Int) (p C : Int) (hC : C ≠ 0) (hb : Below w.heap.size w w') : ReadEE w l p C (.returned (.tuple #[.agg #[Value.int .u64 0, Value.int .u64 0, Value.int .u64 0, Value.int .u8 0, Value.int .u8 0, Value.int .u8 0, Value.int .u8 0, Value.int .u8 0, Value.int .u8 0, Value.int .u8 0, Value.int .u8 0, Value.int .u8 0, Value.int .u8 0, Value.int .u8 0, Value.int .u8 0, Value.int .u8 0, Value.int .u8 0, Value.int .u8 0, Value.int .u8 0, Value.int .u64 0, Value.slice none 0 0], .int .i64 C])) w' :=
  ⟨0, 0, 0, zero16, 0, none, 0, 0, rfl, fun h => absurd h hC, fun _ => ⟨rfl, rfl, rfl, rfl, rfl, rfl, rfl, rfl⟩, hb⟩

theorem Try.rowE : RowInfo Try.prog 32 21 := ⟨by kernel_rfl, by kernel_rfl⟩
theorem Try.itemInfo : (Try.prog.info? 41).map (fun i => (i.zero, i.size, i.bytes)) = some (some (.agg #[.int .u64 0, .int .u64 0]), 2, 16) := by kernel_rfl
theorem Try.twoI : TwoInfo Try.prog 30 41 16 := by
  obtain ⟨i, hi, h0, h1, h2⟩ := info_parts Try.itemInfo
  exact ⟨Try.underlying30, i, _, hi, h0, h1, h2, rfl⟩


set_option maxRecDepth 100000 in
set_option maxHeartbeats 4000000 in
theorem entread_no (p C : Int) (a : Option Addr) (m c : Nat) (l : List Int) (w : World) (hr : RdB w a m c l) (hm : m ≤ 1000000) (h0 : 0 ≤ p) (h1 : p ≤ 18446744073709551615) (hC : entC l p 3 48 16 = C) (hc : C ≠ 0) :
    Calls Try.prog 17 #[.slice a m c, .int .u64 p] w (ReadEE w l p C) := by
  have HC := Lib.hid (fun w' (hb : Below w.heap.size w w') => entbody_any p 3 48 16 (by omega) (by omega) a m c l w' (hr.mono hb) hm h0 h1)
  rw [hC] at HC
  have hc' : (C != 0) = true := by simpa using hc
  have Hc := Lib.hid hc
  clear hc hC hr
  go_enter Try.func17, Try.ntmps17
  go_upto_region 1 with fail
  have hX := heap_alloc_new w (.cells #[Value.int .u64 0, Value.int .u64 0, Value.int .u64 0, Value.int .u8 0, Value.int .u8 0, Value.int .u8 0, Value.int .u8 0, Value.int .u8 0, Value.int .u8 0, Value.int .u8 0, Value.int .u8 0, Value.int .u8 0, Value.int .u8 0, Value.int .u8 0, Value.int .u8 0, Value.int .u8 0, Value.int .u8 0, Value.int .u8 0, Value.int .u8 0, Value.int .u64 0, Value.slice none 0 0] 32)
  have HB1 := Lib.hid (below_alloc w (.cells #[Value.int .u64 0, Value.int .u64 0, Value.int .u64 0, Value.int .u8 0, Value.int .u8 0, Value.int .u8 0, Value.int .u8 0, Value.int .u8 0, Value.int .u8 0, Value.int .u8 0, Value.int .u8 0, Value.int .u8 0, Value.int .u8 0, Value.int .u8 0, Value.int .u8 0, Value.int .u8 0, Value.int .u8 0, Value.int .u8 0, Value.int .u8 0, Value.int .u64 0, Value.slice none 0 0] 32))
  generalize w.alloc (.cells #[Value.int .u64 0, Value.int .u64 0, Value.int .u64 0, Value.int .u8 0, Value.int .u8 0, Value.int .u8 0, Value.int .u8 0, Value.int .u8 0, Value.int .u8 0, Value.int .u8 0, Value.int .u8 0, Value.int .u8 0, Value.int .u8 0, Value.int .u8 0, Value.int .u8 0, Value.int .u8 0, Value.int .u8 0, Value.int .u8 0, Value.int .u8 0, Value.int .u64 0, Value.slice none 0 0] 32) = w1 at HB1 hX ⊢
  have HX := Lib.hid hX
  clear hX
  go_wp2_with fail
  refine (HC.out w1 HB1.out).mono ?_
  rintro e w2 ⟨a1, n1, c1, rfl, -, hb2⟩
  have HB2 := Lib.hid (HB1.out.trans (hb2.mono HB1.out.size))
  have HX2 := Lib.hid (row_below hb2 (lt_of_heap HX.out) HX.out)
  obtain ⟨S, hS⟩ : ∃ S, w.heap.size = S := ⟨_, rfl⟩
  have HS := Lib.hid hS
  rw [hS] at HX2 ⊢
  clear hb2 hS
  go_wp2_with (with_reducible refine wpList_storeS rfl rfl Try.rowE rfl rfl HX2.out (by with_unfolding_all rfl) (by with_unfolding_all rfl) (by with_unfolding_all rfl) ?_; intro w3 HX3 hu3)
  have hB3 := HB2.out.trans (hu3.below HB2.out.size (fun k hk => by subst hk; exact Nat.le_of_eq HS.out))
  refine bodyPost_ret (results_S1 Try.results17 Try.rowE rfl rfl HX3.out rfl) rfl ?_
  exact readE_no w w3 l p C Hc.out hB3


/-- The cells of an entry, as a list. -/
def entL (s r m : Int) (B : List Int) (x : Int) (a : Option Addr) (n c : Nat) : List Value := [Value.int .u64 s, Value.int .u64 r, Value.int .u64 m] ++ (B.map (Value.int .u8) ++ [Value.int .u64 x, Value.slice a n c])
theorem entV_eq (s r m : Int) (B : List Int) (x : Int) (a : Option Addr) (n c : Nat) : entV s r m B x a n c = .agg (entL s r m B x a n c).toArray := by unfold entV entL; rw [List.append_assoc]
theorem entL_length {s r m : Int} {B : List Int} {x : Int} {a : Option Addr} {n c : Nat} (hB : B.length = 16) : (entL s r m B x a n c).length = 21 := by simp [entL, hB]
theorem entL_size {s r m : Int} {B : List Int} {x : Int} {a : Option Addr} {n c : Nat} (hB : B.length = 16) : (entL s r m B x a n c).toArray.size = 21 := by simp [entL, hB]
theorem entL_one {s r m : Int} {B : List Int} {x : Int} {a : Option Addr} {n c : Nat} : (entL s r m B x a n c).toArray.all (·.oneCell') = true := by
  rw [Array.all_eq_true_iff_forall_mem]
  intro v hv
  simp only [entL, List.mem_toArray, List.mem_append, List.mem_cons, List.mem_map, List.not_mem_nil, or_false] at hv
  rcases hv with (rfl | rfl | rfl) | ⟨y, _, rfl⟩ | rfl | rfl <;> rfl
theorem entL_20 {s r m : Int} {B : List Int} {x : Int} {a : Option Addr} {n c : Nat} (hB : B.length = 16) : (entL s r m B x a n c).toArray[20]? = some (.slice a n c) := by
  simp only [entL, List.getElem?_toArray]
  rw [List.getElem?_append_right (by simp), List.getElem?_append_right (by simp [hB])]
  simp [hB]
theorem entL_19 {s r m : Int} {B : List Int} {x : Int} {a : Option Addr} {n c : Nat} (hB : B.length = 16) : (entL s r m B x a n c).toArray[19]? = some (.int .u64 x) := by
  simp only [entL, List.getElem?_toArray]
  rw [List.getElem?_append_right (by simp), List.getElem?_append_right (by simp [hB])]
  simp [hB]
theorem entL_set {s r m : Int} {B : List Int} {x : Int} {a : Option Addr} {n c : Nat} (hB : B.length = 16) (a' : Option Addr) (n' c' : Nat) : (entL s r m B x a n c).toArray.setIfInBounds 20 (.slice a' n' c') = (entL s r m B x a' n' c').toArray := by
  simp only [entL, List.setIfInBounds_toArray]
  congr 1
  rw [List.set_append_right _ _ (by simp), List.set_append_right _ _ (by simp [hB])]
  simp [hB]
theorem entL_boot {s r m : Int} {B : List Int} {x : Int} {a : Option Addr} {n c : Nat} (hB : B.length = 16) : splice (entL s r m zero16 x a n c) 3 (B.map (Value.int .u8)) = entL s r m B x a n c := by
  simp [splice, entL, zero16, hB]

set_option maxRecDepth 100000 in
set_option maxHeartbeats 4000000 in
theorem entread_yes (p : Int) (a : Option Addr) (m c : Nat) (l : List Int) (w : World) (hr : RdB w a m c l) (hm : m ≤ 1000000) (h0 : 0 ≤ p) (h1 : p ≤ 18446744073709551615) (hC : entC l p 3 48 16 = 0) :
    Calls Try.prog 17 #[.slice a m c, .int .u64 p] w (ReadEE w l p (entRC l p)) := by
  obtain rfl : l.length = m := hr.len
  have HC := Lib.hid (fun w' (hb : Below w.heap.size w w') => entbody_any p 3 48 16 (by omega) (by omega) a l.length c l w' (hr.mono hb) hm h0 h1)
  rw [hC] at HC
  obtain ⟨k0, k1, k2, k3⟩ := entC_ok h0 (by omega) hC
  have hRC : entRC l p = if (numsOf l p).getD 0 0 = 0 then 13 else if riseB (itemsOf l p) = true then 0 else 11 := by unfold entRC; rw [if_neg (by simpa using hC)]
  have HRC := Lib.hid hRC
  obtain ⟨C, hCC⟩ : ∃ C, entRC l p = C := ⟨_, rfl⟩
  rw [hCC] at HRC ⊢
  clear hRC hCC
  have hbl := bodyL_length h0 k0
  obtain ⟨g1, g2, g3, g4, g5, g6⟩ := readC_ok h0 k0
  have hbB : IsB (bodyL l p) := (hr.1.drop _).take _
  obtain ⟨M, hM⟩ : ∃ M, (bodyL l p).length = 48 + 16 * M := ⟨((bodyL l p).length - 48) / 16, by rw [hbl]; omega⟩
  have hM1 : 1 ≤ M := by omega
  have hbln : (bodyL l p).length ≤ 1000000 := by omega
  have hL0 : (allF (bodyL l p)).length = 6 + 2 * M := by rw [allF_length, hM]; omega
  have hbd : ∀ v ∈ allF (bodyL l p), 0 ≤ v ∧ v ≤ 18446744073709551615 := allI_bd hbB _
  have hMl : M ≤ 1000000 := by omega
  have HBt := Lib.hid (show bootOf l p = ((bodyL l p).drop 24).take 16 from rfl)
  have hit0 : itemsOf l p = pairI ((allF (bodyL l p)).drop 6) M := by
    unfold itemsOf numsOf; rw [hL0, show 6 + 2 * M - 6 = 2 * M by omega, Nat.mul_div_cancel_left _ (by omega)]
  have HIT := Lib.hid hit0
  unfold ReadEE
  have hBl : (bootOf l p).length = 16 := by unfold bootOf; simp; omega
  generalize bootOf l p = Bt at *
  generalize itemsOf l p = Its at *
  have HN := Lib.hid (show numsOf l p = allF (bodyL l p) from rfl)
  generalize numsOf l p = L at *
  obtain ⟨X, hX⟩ : ∃ X, bodyL l p = X := ⟨_, rfl⟩
  rw [hX] at hM hL0 hbd HBt HIT HN hbB hbln
  have HXX := Lib.hid hX
  clear hX hbl k0 k1 k2 k3 g1 g2 g3 g4 g5 g6 hC hit0
  have hLL : L = allF X := HN.out
  rw [← hLL] at hL0 hbd HIT
  have HAF := Lib.hid hLL
  clear hLL HN
  obtain ⟨s, hs⟩ : ∃ s, L[0]? = some s := ⟨_, List.getElem?_eq_getElem (by omega)⟩
  obtain ⟨r, hr'⟩ : ∃ r, L[1]? = some r := ⟨_, List.getElem?_eq_getElem (by omega)⟩
  obtain ⟨mo, hmo⟩ : ∃ mo, L[2]? = some mo := ⟨_, List.getElem?_eq_getElem (by omega)⟩
  obtain ⟨x, hx⟩ : ∃ x, L[5]? = some x := ⟨_, List.getElem?_eq_getElem (by omega)⟩
  have e0 : L.getD 0 0 = s := by rw [List.getD_eq_getElem?_getD, hs]; rfl
  have e1 : L.getD 1 0 = r := by rw [List.getD_eq_getElem?_getD, hr']; rfl
  have e2 : L.getD 2 0 = mo := by rw [List.getD_eq_getElem?_getD, hmo]; rfl
  have e5 : L.getD 5 0 = x := by rw [List.getD_eq_getElem?_getD, hx]; rfl
  rw [e0] at HRC ⊢
  rw [e1, e2, e5]
  have HBD := Lib.hid hbd
  have HS := Lib.hid hs
  have HR := Lib.hid hr'
  have HMO := Lib.hid hmo
  have HXO := Lib.hid hx
  obtain ⟨s0, s1⟩ := hbd s (List.mem_of_getElem? hs)
  obtain ⟨r0, r1⟩ := hbd r (List.mem_of_getElem? hr')
  obtain ⟨mo0, mo1⟩ := hbd mo (List.mem_of_getElem? hmo)
  obtain ⟨x0, x1⟩ := hbd x (List.mem_of_getElem? hx)
  have HM := Lib.hid hM
  have HL0 := Lib.hid hL0
  have HBl := Lib.hid hBl
  have hXlo : 64 ≤ X.length := by omega
  have hLlo : 6 ≤ L.length := by omega
  have hLhi : L.length ≤ 2000006 := by omega
  clear hbd hs hr' hmo hx e0 e1 e2 e5 hM hL0 hBl
  go_enter Try.func17, Try.ntmps17
  go_upto_region 1 with fail
  have hX := heap_alloc_new w (.cells #[Value.int .u64 0, Value.int .u64 0, Value.int .u64 0, Value.int .u8 0, Value.int .u8 0, Value.int .u8 0, Value.int .u8 0, Value.int .u8 0, Value.int .u8 0, Value.int .u8 0, Value.int .u8 0, Value.int .u8 0, Value.int .u8 0, Value.int .u8 0, Value.int .u8 0, Value.int .u8 0, Value.int .u8 0, Value.int .u8 0, Value.int .u8 0, Value.int .u64 0, Value.slice none 0 0] 32)
  have HB1 := Lib.hid (below_alloc w (.cells #[Value.int .u64 0, Value.int .u64 0, Value.int .u64 0, Value.int .u8 0, Value.int .u8 0, Value.int .u8 0, Value.int .u8 0, Value.int .u8 0, Value.int .u8 0, Value.int .u8 0, Value.int .u8 0, Value.int .u8 0, Value.int .u8 0, Value.int .u8 0, Value.int .u8 0, Value.int .u8 0, Value.int .u8 0, Value.int .u8 0, Value.int .u8 0, Value.int .u64 0, Value.slice none 0 0] 32))
  generalize w.alloc (.cells #[Value.int .u64 0, Value.int .u64 0, Value.int .u64 0, Value.int .u8 0, Value.int .u8 0, Value.int .u8 0, Value.int .u8 0, Value.int .u8 0, Value.int .u8 0, Value.int .u8 0, Value.int .u8 0, Value.int .u8 0, Value.int .u8 0, Value.int .u8 0, Value.int .u8 0, Value.int .u8 0, Value.int .u8 0, Value.int .u8 0, Value.int .u8 0, Value.int .u64 0, Value.slice none 0 0] 32) = w1 at HB1 hX ⊢
  have HX := Lib.hid hX
  clear hX
  go_wp2_with fail
  refine (HC.out w1 HB1.out).mono ?_
  rintro e w2 ⟨a1, n1, c1, rfl, hr2, hb2⟩
  have hr2 := hr2 rfl
  rw [HXX.out] at hr2
  have hn1e := hr2.len
  have hn1lo : 64 ≤ n1 := by omega
  have hn1hi : n1 ≤ 1000000 := by omega
  have HN1 := Lib.hid hn1e
  have HB2 := Lib.hid (HB1.out.trans (hb2.mono HB1.out.size))
  have HX2 := Lib.hid (row_below hb2 (lt_of_heap HX.out) HX.out)
  have HS0lt := Lib.hid (Nat.lt_of_lt_of_le (lt_of_heap HX.out) hb2.size)
  obtain ⟨S, hS⟩ : ∃ S, w.heap.size = S := ⟨_, rfl⟩
  have HSS := Lib.hid hS
  rw [hS] at HX2 HS0lt ⊢
  have HAL := Lib.hid (all_any a1 n1 c1 X w2 hr2 (by omega))
  rw [← HAF.out] at HAL
  have HR2 := Lib.hid hr2
  clear hb2 hS hr2 hn1e
  go_wp2_with fail
  with_reducible refine HAL.out.mono ?_
  rintro e w3 ⟨a3, c3, rfl, ho3, hb3⟩
  have HB3 := Lib.hid (HB2.out.trans (hb3.mono HB2.out.size))
  have HX3 := Lib.hid (row_below hb3 HS0lt.out HX2.out)
  have HR3 := Lib.hid (HR2.out.mono hb3)
  have hrd := ho3.rd
  obtain ⟨N, hN⟩ : ∃ N, L.length = N := ⟨_, rfl⟩
  rw [hN] at hrd ⊢
  obtain ⟨b, off, rfl, hbk, hcs⟩ := hrd.at (by omega)
  have HRD := Lib.hid hrd
  have HNN := Lib.hid hN
  have hz1 : (1 : Int) < (N : Int) := by omega
  have hz0 : (0 : Int) < (N : Int) := by omega
  have hz2 : (2 : Int) < (N : Int) := by omega
  have hz5 : (5 : Int) < (N : Int) := by omega
  have hn1 : 1 < N := by omega
  have hn0 : 0 < N := by omega
  have hn2 : 2 < N := by omega
  have hn5 : 5 < N := by omega
  have hc0 : w3.cell? ⟨b, off, none⟩ = some (.int .u64 s) := hcs 0 s HS.out
  have hc1 : w3.cell? ⟨b, off + 1, none⟩ = some (.int .u64 r) := hcs 1 r HR.out
  have hc2 : w3.cell? ⟨b, off + 2, none⟩ = some (.int .u64 mo) := hcs 2 mo HMO.out
  have hc5 : w3.cell? ⟨b, off + 5, none⟩ = some (.int .u64 x) := hcs 5 x HXO.out
  clear hb3 ho3 hcs hN hrd
  go_upto_region 5 with fail
  have HE := Lib.hid (show (w3.alloc (.cells #[Value.int .u64 0, Value.int .u64 0, Value.int .u64 0, Value.int .u8 0, Value.int .u8 0, Value.int .u8 0, Value.int .u8 0, Value.int .u8 0, Value.int .u8 0, Value.int .u8 0, Value.int .u8 0, Value.int .u8 0, Value.int .u8 0, Value.int .u8 0, Value.int .u8 0, Value.int .u8 0, Value.int .u8 0, Value.int .u8 0, Value.int .u8 0, Value.int .u64 0, Value.slice none 0 0] 32)).drew.heap[w3.heap.size]? = some (.cells #[Value.int .u64 0, Value.int .u64 0, Value.int .u64 0, Value.int .u8 0, Value.int .u8 0, Value.int .u8 0, Value.int .u8 0, Value.int .u8 0, Value.int .u8 0, Value.int .u8 0, Value.int .u8 0, Value.int .u8 0, Value.int .u8 0, Value.int .u8 0, Value.int .u8 0, Value.int .u8 0, Value.int .u8 0, Value.int .u8 0, Value.int .u8 0, Value.int .u64 0, Value.slice none 0 0] 32) from heap_alloc_new w3 _)
  refine wp_region_held (S := fun w' => w'.cell? ⟨b, off, none⟩ = some (.int .u64 s) ∧ w'.cell? ⟨b, off + 1, none⟩ = some (.int .u64 r) ∧ w'.cell? ⟨b, off + 2, none⟩ = some (.int .u64 mo) ∧ w'.cell? ⟨b, off + 5, none⟩ = some (.int .u64 x)) (by kernel_rfl) ?_
  change wpAnyH _ _ _ _ _ _ _ _ w3.drew
  have hC : w3.drew.cell? ⟨b, off, none⟩ = some (.int .u64 s) ∧ w3.drew.cell? ⟨b, off + 1, none⟩ = some (.int .u64 r) ∧ w3.drew.cell? ⟨b, off + 2, none⟩ = some (.int .u64 mo) ∧ w3.drew.cell? ⟨b, off + 5, none⟩ = some (.int .u64 x) := ⟨hc0, hc1, hc2, hc5⟩
  clear hc0 hc1 hc2 hc5
  refine held_take 0 (d := some 24) (v := (.slice (some ⟨b, off, none⟩) N c3)) rfl rfl (by kernel_rfl) (by kernel_rfl) (by kernel_rfl) (fun _ _ _ h => h) hC (by kernel_rfl) (fun w hSw => by obtain ⟨x0, x1, x2, x3⟩ := hSw; go_simp) ?_
  try simp only [Act.put, List.setIfInBounds_toArray, List.set_cons_zero, List.set_cons_succ]
  refine held_take 1 (d := some 25) (v := (.pointer (some ⟨b, off, none⟩))) rfl rfl (by kernel_rfl) (by kernel_rfl) (by kernel_rfl) (fun _ _ _ h => h) hC (by kernel_rfl) (fun w hSw => by obtain ⟨x0, x1, x2, x3⟩ := hSw; go_simp) ?_
  try simp only [Act.put, List.setIfInBounds_toArray, List.set_cons_zero, List.set_cons_succ]
  refine held_take 2 (d := some 26) (v := (.int .u64 s)) rfl rfl (by kernel_rfl) (by kernel_rfl) (by kernel_rfl) (fun _ _ _ h => h) hC (by kernel_rfl) (fun w hSw => by obtain ⟨x0, x1, x2, x3⟩ := hSw; go_simp) ?_
  try simp only [Act.put, List.setIfInBounds_toArray, List.set_cons_zero, List.set_cons_succ]
  refine held_take 3 (d := some 27) (v := (.slice (some ⟨b, off, none⟩) N c3)) rfl rfl (by kernel_rfl) (by kernel_rfl) (by kernel_rfl) (fun _ _ _ h => h) hC (by kernel_rfl) (fun w hSw => by obtain ⟨x0, x1, x2, x3⟩ := hSw; go_simp) ?_
  try simp only [Act.put, List.setIfInBounds_toArray, List.set_cons_zero, List.set_cons_succ]
  refine held_take 4 (d := some 28) (v := (.pointer (some ⟨b, off + 1, none⟩))) rfl rfl (by kernel_rfl) (by kernel_rfl) (by kernel_rfl) (fun _ _ _ h => h) hC (by kernel_rfl) (fun w hSw => by obtain ⟨x0, x1, x2, x3⟩ := hSw; go_simp) ?_
  try simp only [Act.put, List.setIfInBounds_toArray, List.set_cons_zero, List.set_cons_succ]
  refine held_take 5 (d := some 29) (v := (.int .u64 r)) rfl rfl (by kernel_rfl) (by kernel_rfl) (by kernel_rfl) (fun _ _ _ h => h) hC (by kernel_rfl) (fun w hSw => by obtain ⟨x0, x1, x2, x3⟩ := hSw; go_simp) ?_
  try simp only [Act.put, List.setIfInBounds_toArray, List.set_cons_zero, List.set_cons_succ]
  refine held_take 6 (d := some 30) (v := (.slice (some ⟨b, off, none⟩) N c3)) rfl rfl (by kernel_rfl) (by kernel_rfl) (by kernel_rfl) (fun _ _ _ h => h) hC (by kernel_rfl) (fun w hSw => by obtain ⟨x0, x1, x2, x3⟩ := hSw; go_simp) ?_
  try simp only [Act.put, List.setIfInBounds_toArray, List.set_cons_zero, List.set_cons_succ]
  refine held_take 7 (d := some 31) (v := (.pointer (some ⟨b, off + 2, none⟩))) rfl rfl (by kernel_rfl) (by kernel_rfl) (by kernel_rfl) (fun _ _ _ h => h) hC (by kernel_rfl) (fun w hSw => by obtain ⟨x0, x1, x2, x3⟩ := hSw; go_simp) ?_
  try simp only [Act.put, List.setIfInBounds_toArray, List.set_cons_zero, List.set_cons_succ]
  refine held_take 8 (d := some 32) (v := (.int .u64 mo)) rfl rfl (by kernel_rfl) (by kernel_rfl) (by kernel_rfl) (fun _ _ _ h => h) hC (by kernel_rfl) (fun w hSw => by obtain ⟨x0, x1, x2, x3⟩ := hSw; go_simp) ?_
  try simp only [Act.put, List.setIfInBounds_toArray, List.set_cons_zero, List.set_cons_succ]
  refine held_take 9 (d := some 33) (v := (.slice (some ⟨b, off, none⟩) N c3)) rfl rfl (by kernel_rfl) (by kernel_rfl) (by kernel_rfl) (fun _ _ _ h => h) hC (by kernel_rfl) (fun w hSw => by obtain ⟨x0, x1, x2, x3⟩ := hSw; go_simp) ?_
  try simp only [Act.put, List.setIfInBounds_toArray, List.set_cons_zero, List.set_cons_succ]
  refine held_take 10 (d := some 34) (v := (.pointer (some ⟨b, off + 5, none⟩))) rfl rfl (by kernel_rfl) (by kernel_rfl) (by kernel_rfl) (fun _ _ _ h => h) hC (by kernel_rfl) (fun w hSw => by obtain ⟨x0, x1, x2, x3⟩ := hSw; go_simp) ?_
  try simp only [Act.put, List.setIfInBounds_toArray, List.set_cons_zero, List.set_cons_succ]
  refine held_take 11 (d := some 35) (v := (.int .u64 x)) rfl rfl (by kernel_rfl) (by kernel_rfl) (by kernel_rfl) (fun _ _ _ h => h) hC (by kernel_rfl) (fun w hSw => by obtain ⟨x0, x1, x2, x3⟩ := hSw; go_simp) ?_
  try simp only [Act.put, List.setIfInBounds_toArray, List.set_cons_zero, List.set_cons_succ]
  refine held_take 12 (d := some 36) (v := (.agg #[.int .u64 s, .int .u64 r, .int .u64 mo, .int .u8 0, .int .u8 0, .int .u8 0, .int .u8 0, .int .u8 0, .int .u8 0, .int .u8 0, .int .u8 0, .int .u8 0, .int .u8 0, .int .u8 0, .int .u8 0, .int .u8 0, .int .u8 0, .int .u8 0, .int .u8 0, .int .u64 x, .slice none 0 0])) rfl rfl (by kernel_rfl) (by kernel_rfl) (by kernel_rfl) (fun _ _ _ h => h) hC (by kernel_rfl) (fun w hSw => by obtain ⟨x0, x1, x2, x3⟩ := hSw; go_simp) ?_
  try simp only [Act.put, List.setIfInBounds_toArray, List.set_cons_zero, List.set_cons_succ]
  have hB4 := (below_alloc w3 (.cells #[Value.int .u64 0, Value.int .u64 0, Value.int .u64 0, Value.int .u8 0, Value.int .u8 0, Value.int .u8 0, Value.int .u8 0, Value.int .u8 0, Value.int .u8 0, Value.int .u8 0, Value.int .u8 0, Value.int .u8 0, Value.int .u8 0, Value.int .u8 0, Value.int .u8 0, Value.int .u8 0, Value.int .u8 0, Value.int .u8 0, Value.int .u8 0, Value.int .u64 0, Value.slice none 0 0] 32)).drew
  refine held_one 13 rfl (by kernel_rfl) (fun K hK => ?_)
  go_simp
  obtain ⟨x0, x1, x2, x3⟩ := hC
  have hC : (w3.alloc (.cells #[Value.int .u64 0, Value.int .u64 0, Value.int .u64 0, Value.int .u8 0, Value.int .u8 0, Value.int .u8 0, Value.int .u8 0, Value.int .u8 0, Value.int .u8 0, Value.int .u8 0, Value.int .u8 0, Value.int .u8 0, Value.int .u8 0, Value.int .u8 0, Value.int .u8 0, Value.int .u8 0, Value.int .u8 0, Value.int .u8 0, Value.int .u8 0, Value.int .u64 0, Value.slice none 0 0] 32)).drew.cell? ⟨b, off, none⟩ = some (.int .u64 s) ∧ (w3.alloc (.cells #[Value.int .u64 0, Value.int .u64 0, Value.int .u64 0, Value.int .u8 0, Value.int .u8 0, Value.int .u8 0, Value.int .u8 0, Value.int .u8 0, Value.int .u8 0, Value.int .u8 0, Value.int .u8 0, Value.int .u8 0, Value.int .u8 0, Value.int .u8 0, Value.int .u8 0, Value.int .u8 0, Value.int .u8 0, Value.int .u8 0, Value.int .u8 0, Value.int .u64 0, Value.slice none 0 0] 32)).drew.cell? ⟨b, off + 1, none⟩ = some (.int .u64 r) ∧ (w3.alloc (.cells #[Value.int .u64 0, Value.int .u64 0, Value.int .u64 0, Value.int .u8 0, Value.int .u8 0, Value.int .u8 0, Value.int .u8 0, Value.int .u8 0, Value.int .u8 0, Value.int .u8 0, Value.int .u8 0, Value.int .u8 0, Value.int .u8 0, Value.int .u8 0, Value.int .u8 0, Value.int .u8 0, Value.int .u8 0, Value.int .u8 0, Value.int .u8 0, Value.int .u64 0, Value.slice none 0 0] 32)).drew.cell? ⟨b, off + 2, none⟩ = some (.int .u64 mo) ∧ (w3.alloc (.cells #[Value.int .u64 0, Value.int .u64 0, Value.int .u64 0, Value.int .u8 0, Value.int .u8 0, Value.int .u8 0, Value.int .u8 0, Value.int .u8 0, Value.int .u8 0, Value.int .u8 0, Value.int .u8 0, Value.int .u8 0, Value.int .u8 0, Value.int .u8 0, Value.int .u8 0, Value.int .u8 0, Value.int .u8 0, Value.int .u8 0, Value.int .u8 0, Value.int .u64 0, Value.slice none 0 0] 32)).drew.cell? ⟨b, off + 5, none⟩ = some (.int .u64 x) := ⟨bcell hB4 hbk x0, bcell hB4 hbk x1, bcell hB4 hbk x2, bcell hB4 hbk x3⟩
  clear x0 x1 x2 x3
  refine hK _ _ hC ?_
  clear hK K
  try simp only [Act.put, List.setIfInBounds_toArray, List.set_cons_zero, List.set_cons_succ]
  have hBl : w3.heap.size < (w3.alloc (.cells #[Value.int .u64 0, Value.int .u64 0, Value.int .u64 0, Value.int .u8 0, Value.int .u8 0, Value.int .u8 0, Value.int .u8 0, Value.int .u8 0, Value.int .u8 0, Value.int .u8 0, Value.int .u8 0, Value.int .u8 0, Value.int .u8 0, Value.int .u8 0, Value.int .u8 0, Value.int .u8 0, Value.int .u8 0, Value.int .u8 0, Value.int .u8 0, Value.int .u64 0, Value.slice none 0 0] 32)).drew.heap.size := lt_of_heap HE.out
  generalize (w3.alloc (.cells #[Value.int .u64 0, Value.int .u64 0, Value.int .u64 0, Value.int .u8 0, Value.int .u8 0, Value.int .u8 0, Value.int .u8 0, Value.int .u8 0, Value.int .u8 0, Value.int .u8 0, Value.int .u8 0, Value.int .u8 0, Value.int .u8 0, Value.int .u8 0, Value.int .u8 0, Value.int .u8 0, Value.int .u8 0, Value.int .u8 0, Value.int .u8 0, Value.int .u64 0, Value.slice none 0 0] 32)).drew = w4 at HE hB4 hC hBl ⊢
  refine held_one 14 rfl (by kernel_rfl) (fun K hK => ?_)
  refine step_storeS rfl rfl Try.rowE rfl rfl HE.out rfl rfl (by with_unfolding_all rfl) ?_
  intro w5 HX5 hu5
  obtain ⟨x0, x1, x2, x3⟩ := hC
  have hne : ¬ (b = w3.heap.size) := by omega
  have hC : w5.cell? ⟨b, off, none⟩ = some (.int .u64 s) ∧ w5.cell? ⟨b, off + 1, none⟩ = some (.int .u64 r) ∧ w5.cell? ⟨b, off + 2, none⟩ = some (.int .u64 mo) ∧ w5.cell? ⟨b, off + 5, none⟩ = some (.int .u64 x) := ⟨ucell hu5 hne x0, ucell hu5 hne x1, ucell hu5 hne x2, ucell hu5 hne x3⟩
  clear x0 x1 x2 x3
  refine hK _ _ hC ?_
  clear hK K
  try simp only [Act.put, List.setIfInBounds_toArray, List.set_cons_zero, List.set_cons_succ]
  refine wpAnyH_done (by kernel_rfl) ?_ _
  have hB35 : Below w3.heap.size w3 w5 := hB4.trans (hu5.below hB4.size (fun k hk => by subst hk; exact Nat.le_refl _))
  have HB5 := Lib.hid (HB3.out.trans (hB35.mono HB3.out.size))
  have HX5' := Lib.hid (row_below hB35 (lt_of_heap HX3.out) HX3.out)
  have hp5 := HR3.out.mono hB35
  have HRD5 := Lib.hid (HRD.out.mono hB35)
  have hSE := Nat.lt_of_lt_of_le (lt_of_heap HX3.out) (Nat.le_refl _)
  obtain ⟨E, hE⟩ : ∃ E, w3.heap.size = E := ⟨_, rfl⟩
  rw [hE] at HX5 hSE hne ⊢
  have hEl := lt_of_heap HX5.out
  have hwE : w.heap.size ≤ E := by have := HB3.out.size; omega
  have HWE := Lib.hid hwE
  clear hE HE hB4 hBl hC hu5 hB35 HX3 HRD HR3
  obtain ⟨b2, off2, rfl, hbk2, hcs2⟩ := hp5.2.at (by omega)
  have hcap1 := hp5.2.2.1
  have hcap2 := hp5.2.2.2.1
  have hrp := hp5.2.sliced 24 40 (by omega) (by omega)
  rw [if_neg (by omega), ← HBt.out] at hrp
  have hrp : Rd (Value.int .u8) w5 (some ⟨b2, off2 + 24, none⟩) 16 (c1 - 24) Bt := hrp
  have HRP := Lib.hid hrp
  have HXE : Hid (w5.heap[E]? = some (.cells (entL s r mo zero16 x none 0 0).toArray 32 (0, 0))) := HX5
  have hz24 : ¬ c1 = 24 := by omega
  have hi24 : (40 : Int) ≤ (c1 : Int) := by omega
  have hn40 : 40 ≤ c1 := by omega
  have hzl : (entL s r mo zero16 x none 0 0).length = 21 := entL_length rfl
  have HZL := Lib.hid hzl
  clear hrp hcs2 hbk2 hp5 hzl hcap2
  go_upto_region 6 with fail
  go_region_law (refine step_copyS rfl rfl Try.oneB rfl rfl HXE.out HRP.out (by rw [HZL.out]; omega) (Nat.le_refl _) (fun _ => rfl) ?_; intro w6 HX6 hu6)
  have hu6 : Upd (· = E) w5 w6 := ⟨hu6.os, hu6.tape, hu6.output, hu6.size, hu6.block⟩
  have HX6' : Hid (w6.heap[E]? = some (.cells (entL s r mo Bt x none 0 0).toArray 32 (0, 0))) := by have h := HX6.out; rw [entL_boot HBl.out] at h; exact h
  have HS6 := Lib.hid (row_upd hu6 (by omega) HX5'.out)
  have HRD6 := Lib.hid (HRD5.out.upd hu6 (fun z hz h => by cases hz; exact hne h))
  have HB6 := Lib.hid (HB5.out.trans (hu6.below (by have := HB5.out.size; omega) (fun k hk => by subst hk; exact HWE.out)))
  have HE6 := Lib.hid (lt_of_heap HX6'.out)
  have HSE := Lib.hid hSE
  have HNE := Lib.hid hne
  clear hu6 HX6 HX5' HRD5 HB5 HXE HX5 HRP hne
  go_wp2_with fail
  go_loopw [10] (fun i wr => ∃ (k : Nat) (a' : Option Addr) (c' q : Nat), k ≤ M ∧ q = 6 + 2 * k ∧ i = .int .i64 (q : Int) ∧ Hid (wr.heap[E]? = some (.cells (entL s r mo Bt x a' k c').toArray 32 (0, 0))) ∧ OwnP 41 wr w6.heap.size a' k c' (pairI (L.drop 6) k) ∧ Upd (· = E) w6 wr) (fun i _ => N - (intOf i).toNat)
  case atStart => exact ⟨0, none, 0, 6, Nat.zero_le _, rfl, rfl, HX6', OwnP.nil _ _ _, Upd.refl _ _⟩
  case round =>
    obtain ⟨k, a', c', q, hk, hq, rfl, HXr, hown, hur⟩ := hrel
    have HO := Lib.hid hown
    have HU := Lib.hid hur
    have HQ := Lib.hid hq
    have HNq := HNN.out
    have HL := HL0.out
    clear hown hur
    by_cases hlt : k < M
    · have hq2 : q + 1 < N := by omega
      have hqM : q ≤ 2000006 := by omega
      have hrd := HRD6.out.upd HU.out (fun z hz h => by cases hz; exact HNE.out h)
      obtain ⟨_, _, hbe, hbk3, hcs⟩ := hrd.at (by omega)
      cases hbe
      obtain ⟨y, hy⟩ : ∃ y, L[q]? = some y := ⟨_, List.getElem?_eq_getElem (by omega)⟩
      obtain ⟨z, hz⟩ : ∃ z, L[q + 1]? = some z := ⟨_, List.getElem?_eq_getElem (by omega)⟩
      have hcx := hcs q y hy
      have hcy := hcs (q + 1) z hz
      obtain ⟨y0, y1⟩ := HBD.out y (List.mem_of_getElem? hy)
      obtain ⟨z0, z1⟩ := HBD.out z (List.mem_of_getElem? hz)
      have HP := Lib.hid (show pairI (L.drop 6) (k + 1) = pairI (L.drop 6) k ++ [(y, z)] by
        rw [pairI_succ, List.getD_eq_getElem?_getD, List.getD_eq_getElem?_getD, List.getElem?_drop, List.getElem?_drop, show 6 + 2 * k = q by omega, show 6 + (2 * k + 1) = q + 1 by omega, hy, hz]; rfl)
      have hqi : (q : Int) < (N : Int) := by omega
      obtain ⟨q1, hq1⟩ : ∃ q1, q + 1 = q1 := ⟨_, rfl⟩
      rw [hq1] at hcy
      have hqw : IntKind.i64.wrap ((q : Int) + 1) = (q1 : Int) := by rw [IntKind.wrap_i64]; omega
      have hqj : (q1 : Int) < (N : Int) := by omega
      have hqj2 : q1 < N := by omega
      have HQ1 := Lib.hid hq1
      clear hq1 HNq HL
      have hqn : q < N := by omega
      have he20 := cell_of_heap HXr.out 20 _ (entL_20 HBl.out)
      have hf20 := free_of_heap HXr.out 20
      have hB3 : Below wr.heap.size wr (wr.drew.alloc (.cells #[.int .u64 y, .int .u64 z] 41)) := (below_drew wr).alloc (Nat.le_refl _) _
      have HOW := Lib.hid (HO.out.mono hB3)
      have HS0 := Lib.hid (cell_of_heap (heap_alloc_new wr.drew (.cells #[.int .u64 y, .int .u64 z] 41)) 0 _ rfl)
      have HS1 := Lib.hid (cell_of_heap (heap_alloc_new wr.drew (.cells #[.int .u64 y, .int .u64 z] 41)) 1 _ rfl)
      have hf1 : (k + 1) * 16 ≤ 140737488355328 := by omega
      have hf2 : k + 1 ≤ 140737488355328 := by omega
      have hz3 := Nat.le_trans HU.out.size hB3.size
      have HB3' := Lib.hid hB3
      have HK := Lib.hid hlt
      have hEn : E ∉ blk a' := fun h => by obtain ⟨u, hu, hub⟩ := mem_blk.1 h; have := (HO.out.lt u hu).1; have := HE6.out; omega
      have HEN := Lib.hid hEn
      have hElt := Nat.lt_of_lt_of_le (lt_of_heap HXr.out) hB3.size
      have HEL := Lib.hid hElt
      have HXB := Lib.hid (row_below hB3 (lt_of_heap HXr.out) HXr.out)
      have hEw := lt_of_heap HXr.out
      clear hy hz hcs hrd hq hB3 hlt hEn hElt
      go_upto_region 10 with fail
      go_region_law (refine step_appP (p := (y, z)) rfl rfl Try.twoI rfl rfl HOW.out HS0.out HS1.out hf1 hf2 hz3 ?_; intro a5 c5 w5 ho5 hu5 hat5; have hx5 := row_upd hu5 HEN.out HXB.out; have hg5 := cell_of_heap hx5 20 _ (entL_20 HBl.out); have hh5 := free_of_heap hx5 20; have HX5 := Lib.hid hx5; clear hx5)
      all_goals
        have hx6 := row_set HX5.out 20 (.slice a5 (k + 1) c5)
        rw [entL_set HBl.out] at hx6
        have HX7 := Lib.hid hx6
        have HO7 := Lib.hid (ho5.upd (Upd.setCell (F := (· = E)) w5 ⟨E, 20, none⟩ (.slice a5 (k + 1) c5) rfl) (fun u hu h => by have := (ho5.lt u hu).1; have := HE6.out; omega))
        have HU7 := Lib.hid (((HU.out.trans (Upd.ofBelow (F := (· = E)) HB3'.out) (fun _ _ h => h)).trans hu5 (fun j hj hg => by obtain ⟨u, hu, rfl⟩ := mem_blk.1 hg; have := (HO.out.lt u hu).1; omega)).trans (Upd.setCell (F := (· = E)) w5 ⟨E, 20, none⟩ (.slice a5 (k + 1) c5) rfl) (fun _ _ h => h))
        clear hx6 hg5 hh5
        generalize w5.setCell ⟨E, 20, none⟩ (.slice a5 (k + 1) c5) = w7 at HX7 HO7 HU7 ⊢
        go_wp2_with fail
        go_roundw
        case rel => exact ⟨k + 1, a5, c5, q + 2, by have := HK.out; omega, by have := HQ.out; omega, by congr 1, HX7, by rw [HP.out]; exact HO7.out, HU7.out⟩
        case measure => simp [intOf]; omega
    · obtain rfl : k = M := by omega
      have hge : ¬ ((q : Int) < (N : Int)) := by omega
      have hge2 : N ≤ q := by omega
      have HSr := Lib.hid (row_upd HU.out (show ¬ (S = E) by have := HSE.out; omega) HS6.out)
      have hX0 : wr.cell? ⟨E, 0, none⟩ = some (.int .u64 s) := cell_of_heap HXr.out 0 _ rfl
      have hBr := Lib.hid (HB6.out.trans (HU.out.below (show w.heap.size ≤ w6.heap.size from HB6.out.size) (fun j hj => by subst hj; exact HWE.out)))
      clear HNq HL hlt hq hk
      rw [← HIT.out] at HO
      have HIL := Lib.hid (show Its.length = k by rw [HIT.out, pairI_length])
      by_cases hs0 : s = 0
      · have hs0' : (s == 0) = true := by simp [hs0]
        have HC13 := Lib.hid (HRC.out.trans (if_pos hs0))
        clear hs0
        go_wp2_with (with_reducible refine wpList_storeS rfl rfl Try.rowE rfl rfl HSr.out (by with_unfolding_all rfl) (by with_unfolding_all rfl) (by with_unfolding_all rfl) ?_; intro w8 HX8 hu8)
        refine bodyPost_ret (results_S1 Try.results17 Try.rowE rfl rfl HX8.out rfl) rfl ?_
        exact ⟨0, 0, 0, zero16, 0, none, 0, 0, by rw [HC13.out]; rfl, fun h => absurd (HC13.out.symm.trans h) (by decide), fun _ => ⟨rfl, rfl, rfl, rfl, rfl, rfl, rfl, rfl⟩, hBr.out.trans (hu8.below hBr.out.size (fun j hj => by subst hj; exact Nat.le_of_eq HSS.out))⟩
      · have hs0' : (s == 0) = false := by simp [hs0]
        have HC2 := Lib.hid (HRC.out.trans (if_neg hs0))
        have hr0 : RdP wr a' k c' Its := HO.out.rd
        obtain ⟨_, hk1, hk2, _, hk3⟩ := hr0
        obtain ⟨bi, oi, rfl, hbi, hci⟩ := hk3.resolve_left (by omega)
        have HCI := Lib.hid hci
        clear hs0 hci
        go_wp2_with fail
        go_loopw [11] (fun i wz => ∃ (j : Nat), j + 1 ≤ k ∧ i = .int .i64 ((j + 1 : Nat) : Int) ∧ riseB (Its.take (j + 1)) = true ∧ Below wr.heap.size wr wz) (fun i _ => k - (intOf i).toNat)
        case atStart => exact ⟨0, by omega, rfl, by match Its with | [] => rfl | [_] => rfl | _ :: _ :: _ => rfl, Below.refl _ _⟩
        case round =>
          obtain ⟨j, hj, rfl, hrise, hBz⟩ := hrel
          have HRI := Lib.hid hrise
          have HBZ := Lib.hid hBz
          have he20 := bcell hBz (lt_of_heap HXr.out) (cell_of_heap HXr.out 20 _ (entL_20 HBl.out))
          clear hrise hBz
          obtain ⟨q, hq⟩ : ∃ q, j + 1 = q := ⟨_, rfl⟩
          rw [hq]
          have HQJ := Lib.hid hq
          by_cases hlt : q < k
          · obtain ⟨u, hu⟩ : ∃ u, Its[j]? = some u := ⟨_, List.getElem?_eq_getElem (by rw [HIL.out]; omega)⟩
            obtain ⟨v, hv⟩ : ∃ v, Its[q]? = some v := ⟨_, List.getElem?_eq_getElem (by rw [HIL.out]; omega)⟩
            have hcu := bcell HBZ.out hbi (HCI.out j u hu).1
            have hcv := bcell HBZ.out hbi (HCI.out q v hv).1
            rw [show oi + 2 * j = oi + j * 2 by omega] at hcu
            rw [show oi + 2 * q = oi + q * 2 by omega] at hcv
            have hqw : IntKind.i64.wrap ((q : Int) - 1) = (j : Int) := by rw [IntKind.wrap_i64]; omega
            have hq0 : (0 : Int) ≤ (q : Int) := by omega
            have hq1 : (q : Int) < (k : Int) := by omega
            have hj0 : (0 : Int) ≤ (j : Int) := by omega
            have hj1 : (j : Int) < (k : Int) := by omega
            have hqk : k ≤ 1000000 := by omega
            have HT := Lib.hid (riseB_take Its j u v hu (by rw [HQJ.out]; exact hv))
            obtain ⟨u1, u2⟩ := u
            obtain ⟨v1, v2⟩ := v
            simp only at hcu hcv
            clear hu hv hq
            by_cases hle : v1 ≤ u1
            · have hC11 : C = 11 := by
                refine HC2.out.trans (if_neg ?_)
                have h1 := HT.out
                rw [HRI.out, Bool.true_and, decide_eq_false (by simp; omega)] at h1
                rw [riseB_cut _ _ h1]; decide
              have HC11 := Lib.hid hC11
              have hle' : decide (v1 ≤ u1) = true := decide_eq_true hle
              clear hC11
              go_upto_region 16 with fail
              go_quiet (fail)
              have HSz := Lib.hid (row_below HBZ.out (lt_of_heap HSr.out) HSr.out)
              go_wp2_with (with_reducible refine wpList_storeS rfl rfl Try.rowE rfl rfl (row_drewN HSz.out _) (by with_unfolding_all rfl) (by with_unfolding_all rfl) (by with_unfolding_all rfl) ?_; intro w8 HX8 hu8)
              refine bodyPost_ret (results_S1 Try.results17 Try.rowE rfl rfl HX8.out rfl) rfl ?_
              have hBw := below_dN (hBr.out.trans (HBZ.out.mono hBr.out.size)) nq
              exact ⟨0, 0, 0, zero16, 0, none, 0, 0, by rw [HC11.out]; rfl, fun h => absurd (HC11.out.symm.trans h) (by decide), fun _ => ⟨rfl, rfl, rfl, rfl, rfl, rfl, rfl, rfl⟩, hBw.trans (hu8.below hBw.size (fun j hj => by subst hj; exact Nat.le_of_eq HSS.out))⟩
            · have hle' : decide (v1 ≤ u1) = false := decide_eq_false hle
              have HRI2 := Lib.hid (show riseB (Its.take (q + 1)) = true by
                have h1 := HT.out
                rw [HRI.out, Bool.true_and, decide_eq_true (by simp; omega)] at h1
                rw [← HQJ.out]; exact h1)
              go_upto_region 16 with fail
              go_quiet (fail)
              go_wp2_with fail
              go_roundw
              case rel => exact ⟨q, by omega, by congr 1, HRI2.out, HBZ.out.trans (⟨rfl, rfl, rfl, Nat.le_refl _, fun _ _ => rfl⟩)⟩
              case measure => simp [intOf]; omega
          · have hqe : q = k := by omega
            have hge : ¬ ((q : Int) < (k : Int)) := by omega
            have HC0 := Lib.hid (HC2.out.trans (if_pos (show riseB Its = true by have h := HRI.out; rw [HQJ.out, hqe, ← HIL.out, List.take_length] at h; exact h)))
            have HSz := Lib.hid (row_below HBZ.out (lt_of_heap HSr.out) HSr.out)
            have HXz := Lib.hid (row_below HBZ.out (lt_of_heap HXr.out) HXr.out)
            have hES := Lib.hid (HSE.out)
            clear hq hqe
            go_wp2_with (first | (with_reducible refine wpList_loadS rfl rfl Try.rowE rfl HXz.out (entL_size HBl.out) ?_) | (with_reducible refine wpList_storeS rfl rfl Try.rowE rfl rfl HSz.out (by with_unfolding_all rfl) (entL_size HBl.out) entL_one ?_; intro w8 HX8 hu8))
            refine bodyPost_ret (v := .tuple #[.agg (entL s r mo Bt x (some ⟨bi, oi, none⟩) k c').toArray, .int .i64 0]) (results_S1 Try.results17 Try.rowE rfl rfl HX8.out (entL_size HBl.out)) rfl ?_
            have hBw := hBr.out.trans (HBZ.out.mono hBr.out.size)
            refine ⟨s, r, mo, Bt, x, some ⟨bi, oi, none⟩, k, c', by rw [HC0.out, entV_eq], fun _ => ⟨rfl, rfl, rfl, rfl, rfl, ?_⟩, fun h => absurd HC0.out h, hBw.trans (hu8.below hBw.size (fun j hj => by subst hj; exact Nat.le_of_eq HSS.out))⟩
            refine ((HO.out.mono HBZ.out).upd hu8 (fun u hu h => ?_)).base HB6.out.size
            have := (HO.out.lt u hu).1
            have := HSE.out
            have := HE6.out
            omega

/-- entry.Read at any place of any bytes. -/
theorem entread_any (p : Int) (a : Option Addr) (m c : Nat) (l : List Int) (w : World) (hr : RdB w a m c l) (hm : m ≤ 1000000) (h0 : 0 ≤ p) (h1 : p ≤ 18446744073709551615) :
    Calls Try.prog 17 #[.slice a m c, .int .u64 p] w (ReadEE w l p (entRC l p)) := by
  by_cases hC : entC l p 3 48 16 = 0
  · exact entread_yes p a m c l w hr hm h0 h1 hC
  · have e : entRC l p = entC l p 3 48 16 := by unfold entRC; rw [if_pos hC]
    rw [e]
    exact entread_no p _ a m c l w hr hm h0 h1 rfl hC
end Go.Proofs.Ytojjgagcpkjkaaa
