/- What obj.read computes: an object's numbers and the bytes behind them. Conditions stand as premises. -/
import Derived.Test.YtfhpdhfhahbfnaaObjAny
import Derived.Test.YtfhpdhfhahbfnaaClone
import Derived.Test.YtfhpdhfhahbfnaaObjData
namespace Go.Proofs.Ytfhpdhfhahbfnaa
open Go.ChangeShapes Go.WideShapes Go.ChangeAt Go.RowKit
set_option linter.unusedVariables false

theorem Try.u64Info : (Try.prog.info? 22).map (fun i => (i.zero, i.size, i.bytes)) = some (some (.int .u64 0), 1, 8) := by kernel_rfl
theorem Try.oneU : OneInfo Try.prog 71 22 8 := by
  obtain ⟨i, hi, h0, h1, h2⟩ := info_parts Try.u64Info
  exact ⟨Try.underlying71, i, _, hi, h0, h1, h2, rfl⟩

/-- The kind, the body that stands at a place. -/
def kindAt (l : List Int) (p : Int) : Int := l[p.toNat]?.getD 0
def bodyL (l : List Int) (p : Int) : List Int := (l.drop (p.toNat + 16)).take ((sizeAt l p.toNat).toNat - 16)
/-- A number of a body. -/
def numAt (b : List Int) (i : Nat) : Int := leN ((b.drop (8 * i)).take 8)
def numsAt (b : List Int) (n : Nat) : List Int := (List.range n).map (numAt b)
/-- The code of an object of a kind with so many numbers. -/
def objC (l : List Int) (p kind : Int) (n : Nat) : Int :=
  if readC l p ≠ 0 then readC l p else if kindAt l p ≠ kind then 4 else if sizeAt l p.toNat ≤ 16 + 8 * n then 5 else 0

theorem numsAt_length (b : List Int) (n : Nat) : (numsAt b n).length = n := by simp [numsAt]
theorem numsAt_snoc (b : List Int) (k : Nat) : numsAt b (k + 1) = numsAt b k ++ [numAt b k] := by simp [numsAt, List.range_succ]
theorem numAt_u8 {b : List Int} (h : IsB b) (i : Nat) : U8 (numAt b i) := by
  have := leN_le ((b.drop (8 * i)).take 8) ((h.drop _).take _) 8 (by simp; omega)
  have h2 := this.2
  simp at h2
  exact ⟨this.1, by unfold numAt; omega⟩

theorem readC_ok {l : List Int} {p : Int} (hp : 0 ≤ p) (h : readC l p = 0) : p % 8 = 0 ∧ p + 16 ≤ l.length ∧ 1 ≤ kindAt l p ∧ kindAt l p ≤ 7 ∧ 16 ≤ sizeAt l p.toNat ∧ sizeAt l p.toNat ≤ (l.length : Int) - p := by
  unfold readC at h
  repeat' split at h
  all_goals first | (exfalso; exact absurd h (by decide)) | skip
  unfold kindAt
  refine ⟨?_, ?_, ?_, ?_, ?_, ?_⟩ <;> omega

theorem readV_ok {l : List Int} {p : Int} (h : readC l p = 0) : readV l p = frameV (kindAt l p) (sizeAt l p.toNat) := by
  unfold readV kindAt; rw [if_pos h]

set_option maxRecDepth 100000 in
set_option maxHeartbeats 4000000 in
theorem objbody_any (p kind : Int) (n : Nat) (a : Option Addr) (m c : Nat) (l : List Int) (w : World) (hr : RdB w a m c l) (hm : m ≤ 140737488351232) (h0 : 0 ≤ p) (h1 : p ≤ 18446744073709551615) (hn : n ≤ 100) :
    Calls Try.prog 33 #[.slice a m c, .int .u64 p, .int .i64 kind, .int .i64 n] w fun e w' => ∃ a1 n1 c1 a2 n2 c2, e = .returned (.tuple #[.slice a1 n1 c1, .slice a2 n2 c2, .int .i64 (objC l p kind n)]) ∧
      (objC l p kind n = 0 → Own (Value.int .u64) 22 w' w.heap.size a1 n1 c1 (numsAt (bodyL l p) n) ∧ OwnB 5 w' w.heap.size a2 n2 c2 ((bodyL l p).drop (8 * n))) ∧ Below w.heap.size w w' := by
  obtain rfl : l.length = m := hr.len
  have HR := Lib.hid (objread_any p a l.length c l w hr hm h0 h1)
  by_cases q0 : readC l p = 0
  case neg =>
    have e1 : objC l p kind n = readC l p := by unfold objC; rw [if_pos q0]
    have e2 := readV_no q0
    rw [e1]
    rw [e2, frameV_eq] at HR
    have q1 : (readC l p != 0) = true := by simpa using q0
    have Q0 := Lib.hid q0
    clear q0 e1 e2
    generalize readC l p = C at *
    go_enter Try.func33, Try.ntmps33
    go_wp2_with fail
    refine HR.out.mono ?_
    rintro e w' ⟨rfl, hb⟩
    go_wp2_with fail
    refine bodyPost_ret (v := .tuple #[.slice none 0 0, .slice none 0 0, .int .i64 C]) (by simp [results, Try.results33, go_sem]) rfl ?_
    exact ⟨none, 0, 0, none, 0, 0, rfl, fun h => absurd h Q0.out, hb.alloc hb.size _⟩
  obtain ⟨g1, g2, g3, g4, g5, g6⟩ := readC_ok h0 q0
  rw [readV_ok q0, q0, frameV_eq] at HR
  have hC : objC l p kind n = if kindAt l p ≠ kind then 4 else if sizeAt l p.toNat ≤ 16 + 8 * n then 5 else 0 := by
    unfold objC; rw [if_neg (by simpa using q0)]
  have HC := Lib.hid hC
  have hbl : bodyL l p = (l.drop (p.toNat + 16)).take ((sizeAt l p.toNat).toNat - 16) := rfl
  have HBL := Lib.hid hbl
  have hbB : IsB (bodyL l p) := (hr.1.drop _).take _
  have hbn : (bodyL l p).length = (sizeAt l p.toNat).toNat - 16 := by rw [hbl]; simp; omega
  clear hC hbl
  generalize bodyL l p = X at *
  generalize kindAt l p = k at *
  generalize sizeAt l p.toNat = s at *
  obtain ⟨C, hCC⟩ : ∃ C, objC l p kind n = C := ⟨_, rfl⟩
  rw [hCC] at HC ⊢
  have HQ := Lib.hid q0
  clear hCC q0
  have hcap := hr.2.2.1
  by_cases q1 : k = kind
  case neg =>
    have q2 : (k != kind) = true := by simpa using q1
    have E := Lib.hid (HC.out.trans (if_pos q1))
    go_enter Try.func33, Try.ntmps33
    go_wp2_with fail
    refine HR.out.mono ?_
    rintro e w' ⟨rfl, hb⟩
    go_wp2_with fail
    refine bodyPost_ret (v := .tuple #[.slice none 0 0, .slice none 0 0, .int .i64 4]) (by simp [results, Try.results33, go_sem]) rfl ?_
    exact ⟨none, 0, 0, none, 0, 0, by rw [E.out], fun h => by rw [E.out] at h; exact absurd h (by decide), hb.alloc hb.size _⟩
  subst q1
  by_cases q3 : s ≤ 16 + 8 * (n : Int)
  · have E := Lib.hid (HC.out.trans ((if_neg (by simp)).trans (if_pos q3)))
    go_enter Try.func33, Try.ntmps33
    go_wp2_with fail
    refine HR.out.mono ?_
    rintro e w' ⟨rfl, hb⟩
    go_wp2_with fail
    refine bodyPost_ret (v := .tuple #[.slice none 0 0, .slice none 0 0, .int .i64 5]) (by simp [results, Try.results33, go_sem]) rfl ?_
    exact ⟨none, 0, 0, none, 0, 0, by rw [E.out], fun h => by rw [E.out] at h; exact absurd h (by decide), hb.alloc hb.size _⟩
  have E := Lib.hid (HC.out.trans ((if_neg (by simp)).trans (if_neg q3)))
  have q4 : 16 + 8 * (n : Int) < s := by omega
  clear q3
  go_enter Try.func33, Try.ntmps33
  go_wp2_with fail
  refine HR.out.mono ?_
  rintro e w1 ⟨rfl, hb1⟩
  have hb2 := hb1.alloc hb1.size (.cells #[.int .i64 k, .int .i64 0, .int .u64 s] 42)
  have hr2 := hr.mono hb2
  have hw16 : IntKind.u64.wrap (p + 16) = p + 16 := by rw [IntKind.wrap_u64]; omega
  have hws : IntKind.u64.wrap (p + s) = p + s := by rw [IntKind.wrap_u64]; omega
  go_wp2_with (with_reducible refine wpList_cut rfl rfl Try.oneB rfl rfl rfl hr2.raw (by omega) (by omega) (by omega) ?_; intro a3 hr3 hs3)
  have hN : (p + s).toNat - (p + 16).toNat = X.length := by omega
  have hL : (l.drop (p + 16).toNat).take X.length = X := by rw [HBL.out, List.length_take, List.length_drop]; rw [show (p + 16).toNat = p.toNat + 16 by omega]; rw [show min (s.toNat - 16) (l.length - (p.toNat + 16)) = s.toNat - 16 by omega]
  rw [hN, hL] at hr3
  rw [hN]
  generalize c - (p + 16).toNat = c3 at hr3 ⊢
  clear hN hL hs3
  have hX : RdB _ a3 X.length c3 X := ⟨hbB, hr3⟩
  generalize w1.alloc (.cells #[.int .i64 k, .int .i64 0, .int .u64 s] 42) = w2 at hr2 hX hb2 ⊢
  have hXs : X.length ≤ 140737488351232 := by omega
  have hXn : 8 * n < X.length := by omega
  have HGet := Lib.hid (fun (j : Nat) (hj : j < n) w' (hb : Below w2.heap.size w2 w') => get_any a3 X.length c3 X (8 * (j : Int)) 8 w' (hX.mono hb) hXs)
  have HgA := Lib.hid (fun (j : Nat) (hj : j < n) => show getA X (8 * (j : Int)) 8 = numAt X j by
    have hg : getB X (8 * (j : Int)) 8 = true := by unfold getB; simp [okSize]; omega
    unfold getA numAt
    rw [if_pos hg]
    congr 2)
  have HU := Lib.hid (fun j => numAt_u8 hbB j)
  have HXX := Lib.hid hX
  have hXm := Lib.hid (fun w' (hb : Below w2.heap.size w2 w') => hX.mono hb)
  have H2 := Lib.hid hb2
  clear hr3 hX hr2 hb1 hr hbB hw16 hws hb2 q4 g1 g2 g3 g4 g5 g6 h0 h1 hm hbn hcap
  go_loopw [14, 50] (fun u i wr => ∃ (j : Nat) (a' : Option Addr) (c' : Nat), j ≤ n ∧ i = .int .i64 j ∧ u = .slice a' j c' ∧ Own (Value.int .u64) 22 wr w2.heap.size a' j c' (numsAt X j) ∧ Below w2.heap.size w2 wr) (fun _ i _ => n - (intOf i).toNat)
  case atStart => exact ⟨0, none, 0, Nat.zero_le _, rfl, rfl, Own.nil _ _ _ _, Below.refl _ _⟩
  case round =>
    obtain ⟨j, a', c', hj, rfl, rfl, ho, hB⟩ := hrel
    have hsz := hB.size
    by_cases hlt : j < n
    · go_wp2_with fail
      refine (HGet.out j hlt _ hB).mono ?_
      rintro e w' ⟨rfl, rfl⟩
      rw [HgA.out j hlt]
      go_wp2_with (at_builtin; go_must (refine wpList_appOwn rfl rfl Try.oneU rfl rfl (ho.alloc _) (Rd.one _ _ _ _) (fun _ => rfl) (by omega) (by omega) (by simp; omega) ?_); intro a5 c5 w5 ho5 hb5 _ _)
      go_roundw
      case rel =>
        rw [← numsAt_snoc] at ho5
        exact ⟨j + 1, a5, c5, by omega, by go_num, rfl, ho5, hB.trans (((Below.refl _ _).alloc hsz _).trans hb5)⟩
      case measure => simp [intOf]; omega
    · obtain rfl : j = n := by omega
      have hr5 := hXm.out _ hB
      go_wp2_with (with_reducible refine wpList_cutL rfl rfl Try.oneB rfl rfl hr5.raw (by omega) (by omega) ?_; intro a6 hr6 hs6)
      have e8 : (8 * (j : Int)).toNat = 8 * j := by omega
      rw [e8] at hr6
      refine (clone_any a6 _ _ _ wr ⟨HXX.out.1.drop _, hr6⟩ (by omega)).mono ?_
      rintro e w6 ⟨a7, c7, rfl, ho7, hb7⟩
      have ho8 := ho.mono hb7
      go_wp2_with fail
      refine bodyPost_ret (v := .tuple #[.slice a' j c', .slice a7 (X.drop (8 * j)).length c7, .int .i64 0]) (by simp [results, Try.results33, go_sem]) rfl ?_
      exact ⟨a', j, c', a7, _, c7, by rw [E.out], fun _ => ⟨ho8.base H2.out.size, ho7.base (Nat.le_trans H2.out.size hsz)⟩, (H2.out.trans (hB.mono H2.out.size)).trans (hb7.mono (Nat.le_trans H2.out.size hsz))⟩
end Go.Proofs.Ytfhpdhfhahbfnaa
