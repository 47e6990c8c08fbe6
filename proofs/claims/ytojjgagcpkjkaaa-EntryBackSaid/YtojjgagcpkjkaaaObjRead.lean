/- What obj.Read computes: an object's frame, or why it is none. Conditions stand as premises. -/
import Derived.Test.YtojjgagcpkjkaaaObjPutO
import Derived.Test.YtojjgagcpkjkaaaLeGet
import Derived.Test.YtojjgagcpkjkaaaUpd
import Derived.Deep.RegionHeld3
namespace Go.Proofs.Ytojjgagcpkjkaaa
open Go.ChangeShapes Go.WideShapes Go.ChangeAt Go.RowKit
set_option linter.unusedVariables false

/-- The size that stands at a place of bytes. -/
def sizeAt (l : List Int) (p : Nat) : Int := leN ((l.drop (p + 8)).take 8)
/-- The code of an object's frame at a place. -/
def readC (l : List Int) (p : Int) : Int :=
  if p % 8 ≠ 0 then 3 else if (l.length : Int) < p ∨ (l.length : Int) - p < 16 then 2
  else if l[p.toNat]?.getD 0 < 1 ∨ 7 < l[p.toNat]?.getD 0 then 4 else if l[p.toNat + 1]?.getD 0 ≠ 0 then 7
  else if sizeAt l p.toNat < 16 then 5 else if (l.length : Int) - p < sizeAt l p.toNat then 2 else 0
/-- A frame as a value. -/
def frameV (k s : Int) : Value := .agg #[.int .i64 k, .int .i64 0, .int .u64 s]
def readV (l : List Int) (p : Int) : Value := if readC l p = 0 then frameV (l[p.toNat]?.getD 0) (sizeAt l p.toNat) else frameV 0 0

theorem frameV_eq (k s : Int) : frameV k s = .agg #[.int .i64 k, .int .i64 0, .int .u64 s] := rfl

set_option maxRecDepth 100000 in
set_option maxHeartbeats 2000000 in
theorem objread_align (p : Int) (v : Value) (a : Option Addr) (n c : Nat) (w : World) (h0 : 0 ≤ p) (h : (p % 8 != 0) = true) (hn : n ≤ 140737488351232) :
    Calls Try.prog 47 #[.slice a n c, .int .u64 p] w fun e w' => e = .returned (.tuple #[frameV 0 0, .int .i64 3]) ∧ Below w.heap.size w w' := by
  rw [frameV_eq]
  go_enter Try.func47, Try.ntmps47
  go_wp2
  exact bodyPost_ret (v := .tuple #[.agg #[.int .i64 0, .int .i64 0, .int .u64 0], .int .i64 3]) (by simp [results, Try.results47, go_sem]) rfl ⟨rfl, below_alloc _ _⟩

set_option maxRecDepth 100000 in
set_option maxHeartbeats 2000000 in
theorem objread_range (p : Int) (a : Option Addr) (n c : Nat) (w : World) (h0 : 0 ≤ p) (h1 : p ≤ 18446744073709551615) (h : (p % 8 != 0) = false) (hn : n ≤ 140737488351232) (hr : (n : Int) < p ∨ (n : Int) - p < 16) :
    Calls Try.prog 47 #[.slice a n c, .int .u64 p] w fun e w' => e = .returned (.tuple #[frameV 0 0, .int .i64 2]) ∧ Below w.heap.size w w' := by
  rw [frameV_eq]
  by_cases hlt : (n : Int) < p
  · clear hr
    go_enter Try.func47, Try.ntmps47
    go_wp2
    exact bodyPost_ret (v := .tuple #[.agg #[.int .i64 0, .int .i64 0, .int .u64 0], .int .i64 2]) (by simp [results, Try.results47, go_sem]) rfl ⟨rfl, below_alloc _ _⟩
  · have hle : p ≤ (n : Int) := by omega
    have h16 : (n : Int) - p < 16 := by omega
    clear hr hlt
    go_enter Try.func47, Try.ntmps47
    go_wp2
    exact bodyPost_ret (v := .tuple #[.agg #[.int .i64 0, .int .i64 0, .int .u64 0], .int .i64 2]) (by simp [results, Try.results47, go_sem]) rfl ⟨rfl, below_alloc _ _⟩

set_option maxRecDepth 100000 in
set_option maxHeartbeats 2000000 in
theorem objread_in (p : Nat) (a : Option Addr) (n c : Nat) (l : List Int) (w : World) (hr : RdB w a n c l) (h8 : ((p : Int) % 8 != 0) = false) (hn : n ≤ 140737488351232) (hp : p + 16 ≤ n) :
    Calls Try.prog 47 #[.slice a n c, .int .u64 p] w fun e w' => e = .returned (.tuple #[readV l p, .int .i64 (readC l p)]) ∧ Below w.heap.size w w' := by
  obtain rfl : l.length = n := hr.len
  obtain ⟨b, off, rfl, hlt, hc⟩ := hr.2.at (by omega)
  have c0 := cellInt hc p (by omega)
  have c1 := cellInt hc (p + 1) (by omega)
  have hk := hr.1.getD p
  have hf := hr.1.getD (p + 1)
  have hs := leN_le ((l.drop (p + 8)).take 8) ((hr.1.drop _).take _) 8 (by simp; omega)
  have hs1 : leN ((l.drop (p + 8)).take 8) ≤ 18446744073709551615 := by have := hs.2; simp at this; omega
  have hs0 := hs.1
  have hC0 : readC l p = if l[p]?.getD 0 < 1 ∨ 7 < l[p]?.getD 0 then 4 else if l[p + 1]?.getD 0 ≠ 0 then 7 else if leN ((l.drop (p + 8)).take 8) < 16 then 5 else if (l.length : Int) - p < leN ((l.drop (p + 8)).take 8) then 2 else 0 := by
    unfold readC sizeAt
    rw [if_neg (by simpa using h8), if_neg (by omega), Int.toNat_natCast]
  have hV0 : readV l p = if readC l p = 0 then frameV (l[p]?.getD 0) (leN ((l.drop (p + 8)).take 8)) else frameV 0 0 := by
    unfold readV sizeAt
    rw [Int.toNat_natCast]
  have hC := Lib.hid hC0
  have hV := Lib.hid hV0
  clear hC0 hV0
  have HGet := Lib.hid (fun w' (hb : Below w.heap.size w w') => get_any (some ⟨b, off, none⟩) l.length c l ((p : Int) + 8) 8 w' (hr.mono hb) hn)
  have hgB : Hid (getB l ((p : Int) + 8) 8 = true) := by
    show getB l ((p : Int) + 8) 8 = true
    unfold getB
    simp [okSize]
    omega
  have hgA : Hid (getA l ((p : Int) + 8) 8 = leN ((l.drop (p + 8)).take 8)) := by
    show getA l ((p : Int) + 8) 8 = leN ((l.drop (p + 8)).take 8)
    unfold getA
    rw [if_pos hgB.out]
    congr 2
  have hcap := hr.2.2.1
  have h63 := hr.2.2.2.1
  unfold maxLen at h63
  have hbA := below_alloc w (.cells #[.int .i64 0, .int .i64 0, .int .u64 0] 100)
  have ca0 := bcell hbA hlt c0
  have ca1 := bcell hbA hlt c1
  generalize leN ((l.drop (p + 8)).take 8) = s at *
  generalize l[p]?.getD 0 = k at *
  generalize l[p + 1]?.getD 0 = f at *
  have hpl : (p : Int) ≤ (l.length : Int) := by omega
  have hp16 : (16 : Int) ≤ (l.length : Int) - p := by omega
  have hpi0 : (0 : Int) ≤ (p : Int) := by omega
  have hpi1 : (p : Int) < (l.length : Int) := by omega
  have hpi2 : (0 : Int) ≤ (p : Int) + 1 := by omega
  have hpi3 : (p : Int) + 1 < (l.length : Int) := by omega
  have hwr : IntKind.u64.wrap ((p : Int) + 1) = (p : Int) + 1 := by rw [IntKind.wrap_u64]; omega
  clear hs hc hr
  go_enter Try.func47, Try.ntmps47
  go_wp2_with fail
  go_region_held3 (fun w' => w'.cell? ⟨b, off + p, none⟩ = some (.int .u8 k) ∧ w'.cell? ⟨b, off + (p + 1), none⟩ = some (.int .u8 f)) (go_keep) (fail)
  go_wp2_with fail
  have hB0 := ((below_alloc w (.cells #[.int .i64 0, .int .i64 0, .int .u64 0] 100)).alloc (by simp) (.cells #[.int .i64 k, .int .i64 f, .int .u64 0] 100)).drew
  refine (HGet.out _ hB0).mono ?_
  rintro e w' ⟨rfl, rfl⟩
  rw [hgA.out, hgB.out]
  clear hB0
  by_cases q1 : k < 1
  · have e1 : readC l p = 4 := by rw [hC.out]; rw [if_pos (.inl q1)]
    have e2 : readV l p = frameV 0 0 := by rw [hV.out, e1]; rw [if_neg (by decide)]
    have E1 := Lib.hid e1
    have E2 := Lib.hid e2
    clear e1 e2
    go_wp2_with fail
    rw [E1.out, E2.out, frameV_eq]
    exact bodyPost_ret (v := .tuple #[.agg #[.int .i64 0, .int .i64 0, .int .u64 0], .int .i64 4]) (by simp [results, Try.results47, go_sem]) rfl ⟨rfl, by first | exact (((below_alloc w _).alloc (by simp) _).drew) | exact (((below_alloc w _).alloc (by simp) _).drew.setCell (by simp) _)⟩
  by_cases q2 : 7 < k
  · have e1 : readC l p = 4 := by rw [hC.out]; rw [if_pos (.inr q2)]
    have e2 : readV l p = frameV 0 0 := by rw [hV.out, e1]; rw [if_neg (by decide)]
    have E1 := Lib.hid e1
    have E2 := Lib.hid e2
    clear e1 e2
    go_wp2_with fail
    rw [E1.out, E2.out, frameV_eq]
    exact bodyPost_ret (v := .tuple #[.agg #[.int .i64 0, .int .i64 0, .int .u64 0], .int .i64 4]) (by simp [results, Try.results47, go_sem]) rfl ⟨rfl, by first | exact (((below_alloc w _).alloc (by simp) _).drew) | exact (((below_alloc w _).alloc (by simp) _).drew.setCell (by simp) _)⟩
  have q3 : 1 ≤ k := by omega
  have q4 : k ≤ 7 := by omega
  clear q1 q2
  by_cases q5 : f = 0
  case neg =>
    have q6 : (f != 0) = true := by simpa using q5
    have e1 : readC l p = 7 := by rw [hC.out]; rw [if_neg (by omega), if_pos q5]
    have e2 : readV l p = frameV 0 0 := by rw [hV.out, e1]; rw [if_neg (by decide)]
    have E1 := Lib.hid e1
    have E2 := Lib.hid e2
    clear e1 e2
    go_wp2_with fail
    rw [E1.out, E2.out, frameV_eq]
    exact bodyPost_ret (v := .tuple #[.agg #[.int .i64 0, .int .i64 0, .int .u64 0], .int .i64 7]) (by simp [results, Try.results47, go_sem]) rfl ⟨rfl, by first | exact (((below_alloc w _).alloc (by simp) _).drew) | exact (((below_alloc w _).alloc (by simp) _).drew.setCell (by simp) _)⟩
  subst q5
  by_cases q7 : s < 16
  · have e1 : readC l p = 5 := by rw [hC.out]; rw [if_neg (by omega), if_neg (by simp), if_pos q7]
    have e2 : readV l p = frameV 0 0 := by rw [hV.out, e1]; rw [if_neg (by decide)]
    have E1 := Lib.hid e1
    have E2 := Lib.hid e2
    clear e1 e2
    go_wp2_with fail
    rw [E1.out, E2.out, frameV_eq]
    exact bodyPost_ret (v := .tuple #[.agg #[.int .i64 0, .int .i64 0, .int .u64 0], .int .i64 5]) (by simp [results, Try.results47, go_sem]) rfl ⟨rfl, by first | exact (((below_alloc w _).alloc (by simp) _).drew) | exact (((below_alloc w _).alloc (by simp) _).drew.setCell (by simp) _)⟩
  have q8 : 16 ≤ s := by omega
  by_cases q9 : (l.length : Int) - p < s
  · have e1 : readC l p = 2 := by rw [hC.out]; rw [if_neg (by omega), if_neg (by simp), if_neg (by omega), if_pos q9]
    have e2 : readV l p = frameV 0 0 := by rw [hV.out, e1]; rw [if_neg (by decide)]
    have E1 := Lib.hid e1
    have E2 := Lib.hid e2
    clear e1 e2
    go_wp2_with fail
    rw [E1.out, E2.out, frameV_eq]
    exact bodyPost_ret (v := .tuple #[.agg #[.int .i64 0, .int .i64 0, .int .u64 0], .int .i64 2]) (by simp [results, Try.results47, go_sem]) rfl ⟨rfl, by first | exact (((below_alloc w _).alloc (by simp) _).drew) | exact (((below_alloc w _).alloc (by simp) _).drew.setCell (by simp) _)⟩
  have q10 : s ≤ (l.length : Int) - p := by omega
  clear q7 q9
  have e1 : readC l p = 0 := by rw [hC.out]; rw [if_neg (by omega), if_neg (by simp), if_neg (by omega), if_neg (by omega)]
  have e2 : readV l p = frameV k s := by rw [hV.out, e1]; rw [if_pos rfl]
  have E1 := Lib.hid e1
  have E2 := Lib.hid e2
  clear e1 e2
  go_wp2_with fail
  rw [E1.out, E2.out, frameV_eq]
  exact bodyPost_ret (v := .tuple #[.agg #[.int .i64 k, .int .i64 0, .int .u64 s], .int .i64 0]) (by simp [results, Try.results47, go_sem]) rfl ⟨rfl, by first | exact (((below_alloc w _).alloc (by simp) _).drew) | exact (((below_alloc w _).alloc (by simp) _).drew.setCell (by simp) _)⟩
end Go.Proofs.Ytojjgagcpkjkaaa
