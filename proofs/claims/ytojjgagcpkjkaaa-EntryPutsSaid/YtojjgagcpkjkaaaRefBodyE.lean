/- What the document's own body (layer 7) computes. Conditions stand as premises. -/
import Derived.Test.YtojjgagcpkjkaaaRefAny
import Derived.Test.YtojjgagcpkjkaaaEntBody
namespace Go.Proofs.Ytojjgagcpkjkaaa
open Go.ChangeShapes Go.WideShapes Go.ChangeAt Go.RowKit
set_option linter.unusedVariables false

/-- The code of an object of a kind. -/
def bodyC (l : List Int) (p kind : Int) : Int := if readC l p ≠ 0 then readC l p else if kindAt l p ≠ kind then 4 else 0

set_option maxRecDepth 100000 in
set_option maxHeartbeats 4000000 in
theorem refbody_any (p kind : Int) (a : Option Addr) (m c : Nat) (l : List Int) (w : World) (hr : RdB w a m c l) (hm : m ≤ 140737488351232) (h0 : 0 ≤ p) (h1 : p ≤ 18446744073709551615) :
    Calls Try.prog 37 #[.slice a m c, .int .u64 p, .int .i64 kind] w fun e w' => ∃ a2 n2 c2, e = .returned (.tuple #[.slice a2 n2 c2, .int .i64 (bodyC l p kind)]) ∧
      (bodyC l p kind = 0 → OwnB 5 w' w.heap.size a2 n2 c2 (bodyL l p)) ∧ Below w.heap.size w w' := by
  obtain rfl : l.length = m := hr.len
  have HR := Lib.hid (refread_any p a l.length c l w hr hm h0 h1)
  by_cases q0 : readC l p = 0
  case neg =>
    have e1 : bodyC l p kind = readC l p := by unfold bodyC; rw [if_pos q0]
    have e2 := readV_no q0
    rw [e1]
    rw [e2, frameV_eq] at HR
    have q1 : (readC l p != 0) = true := by simpa using q0
    have Q0 := Lib.hid q0
    clear q0 e1 e2
    generalize readC l p = C at *
    go_enter Try.func37, Try.ntmps37
    go_wp2_with fail
    refine HR.out.mono ?_
    rintro e w' ⟨rfl, hb⟩
    go_wp2_with fail
    refine bodyPost_ret (v := .tuple #[.slice none 0 0, .int .i64 C]) (by simp [results, Try.results37, go_sem]) rfl ?_
    exact ⟨none, 0, 0, rfl, fun h => absurd h Q0.out, hb.alloc hb.size _⟩
  obtain ⟨g1, g2, g3, g4, g5, g6⟩ := readC_ok h0 q0
  rw [readV_ok q0, q0, frameV_eq] at HR
  have hC : bodyC l p kind = if kindAt l p ≠ kind then 4 else 0 := by
    unfold bodyC; rw [if_neg (by simpa using q0)]
  have HC := Lib.hid hC
  have hbl : bodyL l p = (l.drop (p.toNat + 16)).take ((sizeAt l p.toNat).toNat - 16) := rfl
  have HBL := Lib.hid hbl
  have hbB : IsB (bodyL l p) := (hr.1.drop _).take _
  have hbn : (bodyL l p).length = (sizeAt l p.toNat).toNat - 16 := by rw [hbl]; simp; omega
  clear hC hbl
  generalize bodyL l p = X at *
  generalize kindAt l p = k at *
  generalize sizeAt l p.toNat = s at *
  obtain ⟨C, hCC⟩ : ∃ C, bodyC l p kind = C := ⟨_, rfl⟩
  rw [hCC] at HC ⊢
  have HQ := Lib.hid q0
  clear hCC q0
  have hcap := hr.2.2.1
  by_cases q1 : k = kind
  case neg =>
    have q2 : (k != kind) = true := by simpa using q1
    have E := Lib.hid (HC.out.trans (if_pos q1))
    go_enter Try.func37, Try.ntmps37
    go_wp2_with fail
    refine HR.out.mono ?_
    rintro e w' ⟨rfl, hb⟩
    go_wp2_with fail
    refine bodyPost_ret (v := .tuple #[.slice none 0 0, .int .i64 4]) (by simp [results, Try.results37, go_sem]) rfl ?_
    exact ⟨none, 0, 0, by rw [E.out], fun h => by rw [E.out] at h; exact absurd h (by decide), hb.alloc hb.size _⟩
  subst q1
  have E := Lib.hid (HC.out.trans (if_neg (by simp)))
  go_enter Try.func37, Try.ntmps37
  go_wp2_with fail
  refine HR.out.mono ?_
  rintro e w1 ⟨rfl, hb1⟩
  have hb2 := hb1.alloc hb1.size (.cells #[.int .i64 k, .int .i64 0, .int .u64 s] 104)
  have hb3 := hb2.alloc hb2.size (.cells #[] 5)
  have hr3 := hr.mono hb3
  have hsz1 := hb1.size
  have hw16 : IntKind.u64.wrap (p + 16) = p + 16 := by rw [IntKind.wrap_u64]; omega
  have hws : IntKind.u64.wrap (p + s) = p + s := by rw [IntKind.wrap_u64]; omega
  have ho1 : Own (Value.int .u8) 5 ((w1.alloc (.cells #[.int .i64 k, .int .i64 0, .int .u64 s] 104)).alloc (.cells #[] 5)) w.heap.size (some ⟨w1.heap.size + 1, 0, none⟩) 0 0 [] := by
    have h : Own (Value.int .u8) 5 _ w.heap.size (some ⟨(w1.alloc (.cells #[.int .i64 k, .int .i64 0, .int .u64 s] 104)).heap.size, 0, none⟩) 0 0 [] := Own.lit [] #[] 0 rfl rfl hb2.size (Nat.zero_le _)
    rwa [show (w1.alloc (.cells #[.int .i64 k, .int .i64 0, .int .u64 s] 104)).heap.size = w1.heap.size + 1 by simp] at h
  have hN : (p + s).toNat - (p + 16).toNat = X.length := by omega
  have hL : (l.drop (p + 16).toNat).take X.length = X := by rw [HBL.out, List.length_take, List.length_drop]; rw [show (p + 16).toNat = p.toNat + 16 by omega]; rw [show min (s.toNat - 16) (l.length - (p.toNat + 16)) = s.toNat - 16 by omega]
  go_wp2_with (first | (with_reducible refine wpList_cut rfl rfl Try.oneB rfl rfl rfl hr3.raw (by omega) (by omega) (by omega) ?_; intro a3 hr4 hs4; rw [hN, hL] at hr4; rw [hN]) | (at_builtin; go_must (refine wpList_appOwn rfl rfl Try.oneB rfl rfl ho1 hr4 (fun _ => rfl) (by omega) (by omega) (by simp; omega) ?_); intro a5 c5 w5 ho5 hb5 _ _))
  have hXl : s.toNat - 16 = X.length := hbn.symm
  simp only [List.nil_append, Nat.zero_add] at ho5
  refine bodyPost_ret (v := .tuple #[.slice a5 (s.toNat - 16) c5, .int .i64 0]) (by simp [results, Try.results37, go_sem]) rfl ?_
  exact ⟨a5, _, c5, by rw [E.out], fun _ => ⟨hbB, by rw [hXl]; exact ho5⟩, hb3.trans hb5⟩
end Go.Proofs.Ytojjgagcpkjkaaa
