/- What entry.body computes: the bytes of an object of a kind, or why it is none. Conditions stand as premises. -/
import Derived.Test.YtojjgagcpkjkaaaObjAny
import Derived.Test.YtojjgagcpkjkaaaClone
import Derived.Deep.Cut
namespace Go.Proofs.Ytojjgagcpkjkaaa
open Go.ChangeShapes Go.WideShapes Go.ChangeAt Go.RowKit
set_option linter.unusedVariables false

/-- The kind, the body that stands at a place. -/
def kindAt (l : List Int) (p : Int) : Int := l[p.toNat]?.getD 0
def bodyL (l : List Int) (p : Int) : List Int := (l.drop (p.toNat + 16)).take ((sizeAt l p.toNat).toNat - 16)
/-- The code of an object of a kind with so many bytes ahead, and behind them whole items. -/
def entC (l : List Int) (p kind A T : Int) : Int :=
  if readC l p ≠ 0 then readC l p else if kindAt l p ≠ kind then 4 else if sizeAt l p.toNat ≤ 16 + A ∨ (sizeAt l p.toNat - (16 + A)) % T ≠ 0 then 5 else 0

theorem readC_ok {l : List Int} {p : Int} (hp : 0 ≤ p) (h : readC l p = 0) : p % 8 = 0 ∧ p + 16 ≤ l.length ∧ 1 ≤ kindAt l p ∧ kindAt l p ≤ 7 ∧ 16 ≤ sizeAt l p.toNat ∧ sizeAt l p.toNat ≤ (l.length : Int) - p := by
  unfold readC at h
  repeat' split at h
  all_goals first | (exfalso; exact absurd h (by decide)) | skip
  unfold kindAt
  refine ⟨?_, ?_, ?_, ?_, ?_, ?_⟩ <;> omega
theorem readV_ok {l : List Int} {p : Int} (h : readC l p = 0) : readV l p = frameV (kindAt l p) (sizeAt l p.toNat) := by
  unfold readV kindAt; rw [if_pos h]
theorem bodyL_length {l : List Int} {p : Int} (hp : 0 ≤ p) (h : readC l p = 0) : (bodyL l p).length = (sizeAt l p.toNat).toNat - 16 := by
  obtain ⟨_, _, _, _, h1, h2⟩ := readC_ok hp h
  unfold bodyL; simp; omega

def BodyE (w : World) (l : List Int) (p C : Int) (e : Ending) (w' : World) : Prop :=
  ∃ a1 n1 c1, e = .returned (.tuple #[.slice a1 n1 c1, .int .i64 C]) ∧ (C = 0 → RdB w' a1 n1 c1 (bodyL l p)) ∧ Below w.heap.size w w'

set_option maxRecDepth 100000 in
set_option maxHeartbeats 1000000 in
theorem entbody_any (p kind A T : Int) (hA : 0 ≤ A ∧ A ≤ 48) (hT : 8 ≤ T ∧ T ≤ 16) (a : Option Addr) (m c : Nat) (l : List Int) (w : World) (hr : RdB w a m c l) (hm : m ≤ 1000000) (h0 : 0 ≤ p) (h1 : p ≤ 18446744073709551615) :
    Calls Try.prog 35 #[.slice a m c, .int .u64 p, .int .i64 kind, .int .i64 A, .int .i64 T] w (BodyE w l p (entC l p kind A T)) := by
  obtain rfl : l.length = m := hr.len
  obtain ⟨A0, A1⟩ := hA
  obtain ⟨T0, T1⟩ := hT
  have HR := Lib.hid (objread_any p a l.length c l w hr (by omega) h0 h1)
  by_cases q0 : readC l p = 0
  case neg =>
    have e1 : entC l p kind A T = readC l p := by unfold entC; rw [if_pos q0]
    have e2 := readV_no q0
    rw [e1]
    rw [e2, frameV_eq] at HR
    have q1 : (readC l p != 0) = true := by simpa using q0
    have Q0 := Lib.hid q0
    clear q0 e1 e2
    generalize readC l p = C at *
    go_enter Try.func35, Try.ntmps35
    go_wp2_with fail
    refine HR.out.mono ?_
    rintro e w' ⟨rfl, hb⟩
    go_wp2_with fail
    refine bodyPost_ret (v := .tuple #[.slice none 0 0, .int .i64 C]) (by simp [results, Try.results35, go_sem]) rfl ?_
    exact ⟨none, 0, 0, rfl, fun h => absurd h Q0.out, hb.alloc hb.size _⟩
  obtain ⟨g1, g2, g3, g4, g5, g6⟩ := readC_ok h0 q0
  rw [readV_ok q0, q0, frameV_eq] at HR
  have HC := Lib.hid (show entC l p kind A T = if kindAt l p ≠ kind then 4 else if sizeAt l p.toNat ≤ 16 + A ∨ (sizeAt l p.toNat - (16 + A)) % T ≠ 0 then 5 else 0 by
    unfold entC; rw [if_neg (by simpa using q0)])
  have HBL := Lib.hid (show bodyL l p = (l.drop (p.toNat + 16)).take ((sizeAt l p.toNat).toNat - 16) from rfl)
  have hbB : IsB (bodyL l p) := (hr.1.drop _).take _
  have hbn : (bodyL l p).length = (sizeAt l p.toNat).toNat - 16 := bodyL_length h0 q0
  have HX := Lib.hid (rfl : bodyL l p = bodyL l p)
  unfold BodyE
  generalize bodyL l p = X at *
  generalize kindAt l p = k at *
  generalize sizeAt l p.toNat = s at *
  obtain ⟨C, hCC⟩ : ∃ C, entC l p kind A T = C := ⟨_, rfl⟩
  rw [hCC] at HC ⊢
  clear hCC q0 HX
  have hcap := hr.2.2.1
  by_cases q1 : k = kind
  case neg =>
    have q2 : (k != kind) = true := by simpa using q1
    have E := Lib.hid (HC.out.trans (if_pos q1))
    go_enter Try.func35, Try.ntmps35
    go_wp2_with fail
    refine HR.out.mono ?_
    rintro e w' ⟨rfl, hb⟩
    go_wp2_with fail
    refine bodyPost_ret (v := .tuple #[.slice none 0 0, .int .i64 4]) (by simp [results, Try.results35, go_sem]) rfl ?_
    exact ⟨none, 0, 0, by rw [E.out], fun h => by rw [E.out] at h; exact absurd h (by decide), hb.alloc hb.size _⟩
  subst q1
  by_cases q3 : s ≤ 16 + A
  · have E := Lib.hid (HC.out.trans ((if_neg (by simp)).trans (if_pos (.inl q3))))
    have q4 : decide (s ≤ 16 + A) = true := by simpa using q3
    go_enter Try.func35, Try.ntmps35
    go_wp2_with fail
    refine HR.out.mono ?_
    rintro e w' ⟨rfl, hb⟩
    go_wp2_with fail
    refine bodyPost_ret (v := .tuple #[.slice none 0 0, .int .i64 5]) (by simp [results, Try.results35, go_sem]) rfl ?_
    exact ⟨none, 0, 0, by rw [E.out], fun h => by rw [E.out] at h; exact absurd h (by decide), hb.alloc hb.size _⟩
  have q4 : decide (s ≤ 16 + A) = false := by simpa using q3
  have q5 : 16 + A < s := by omega
  have hTp : 0 < T := by omega
  by_cases q6 : (s - (16 + A)) % T = 0
  case neg =>
    have E := Lib.hid (HC.out.trans ((if_neg (by simp)).trans (if_pos (.inr q6))))
    have q7 : ((s - (16 + A)) % T != 0) = true := by simpa using q6
    go_enter Try.func35, Try.ntmps35
    go_wp2_with fail
    refine HR.out.mono ?_
    rintro e w' ⟨rfl, hb⟩
    go_wp2_with fail
    refine bodyPost_ret (v := .tuple #[.slice none 0 0, .int .i64 5]) (by simp [results, Try.results35, go_sem]) rfl ?_
    exact ⟨none, 0, 0, by rw [E.out], fun h => by rw [E.out] at h; exact absurd h (by decide), hb.alloc hb.size _⟩
  have E := Lib.hid (HC.out.trans ((if_neg (by simp)).trans (if_neg (by omega))))
  have q7 : ((s - (16 + A)) % T != 0) = false := by simpa using q6
  clear q3 HC
  go_enter Try.func35, Try.ntmps35
  go_wp2_with fail
  refine HR.out.mono ?_
  rintro e w1 ⟨rfl, hb1⟩
  have hb2 := hb1.alloc hb1.size (.cells #[.int .i64 k, .int .i64 0, .int .u64 s] 100)
  have hr2 := hr.mono hb2
  have hw16 : IntKind.u64.wrap (p + 16) = p + 16 := by rw [IntKind.wrap_u64]; omega
  have hws : IntKind.u64.wrap (p + s) = p + s := by rw [IntKind.wrap_u64]; omega
  go_wp2_with (with_reducible refine wpList_cut rfl rfl Try.oneB rfl rfl rfl hr2.raw (by omega) (by omega) (by omega) ?_; intro a3 hr3 hs3)
  have hN : (p + s).toNat - (p + 16).toNat = X.length := by omega
  have hL : (l.drop (p + 16).toNat).take X.length = X := by rw [HBL.out, List.length_take, List.length_drop]; rw [show (p + 16).toNat = p.toNat + 16 by omega]; rw [show min (s.toNat - 16) (l.length - (p.toNat + 16)) = s.toNat - 16 by omega]
  rw [hN, hL] at hr3
  rw [hN]
  refine bodyPost_ret (v := .tuple #[.slice a3 X.length (c - (p + 16).toNat), .int .i64 0]) (by simp [results, Try.results35, go_sem]) rfl ?_
  exact ⟨_, _, _, by rw [E.out], fun _ => ⟨hbB, hr3⟩, hb2⟩
end Go.Proofs.Ytojjgagcpkjkaaa
