/- What entry.all computes: bytes as numbers of eight bytes. Conditions stand as premises. -/
import Derived.Test.YtojjgagcpkjkaaaEntNums
namespace Go.Proofs.Ytojjgagcpkjkaaa
open Go.ChangeShapes Go.WideShapes Go.ChangeAt Go.RowKit
set_option linter.unusedVariables false

theorem Try.uInfo : (Try.prog.info? 25).map (fun i => (i.zero, i.size, i.bytes)) = some (some (.int .u64 0), 1, 8) := by kernel_rfl
theorem Try.oneU : OneInfo Try.prog 33 25 8 := by
  obtain ⟨i, hi, h0, h1, h2⟩ := info_parts Try.uInfo
  exact ⟨Try.underlying33, i, _, hi, h0, h1, h2, rfl⟩

/-- So many numbers of eight bytes. -/
def allI (l : List Int) (k : Nat) : List Int := (List.range k).map fun i => getA l ((8 * i : Nat) : Int) 8
def allF (l : List Int) : List Int := allI l ((l.length + 7) / 8)
theorem allI_succ (l : List Int) (k : Nat) : allI l (k + 1) = allI l k ++ [getA l ((8 * k : Nat) : Int) 8] := by
  unfold allI; rw [List.range_succ, List.map_append]; rfl
theorem allI_length (l : List Int) (k : Nat) : (allI l k).length = k := by simp [allI]
theorem allF_length (l : List Int) : (allF l).length = (l.length + 7) / 8 := allI_length _ _
def lenS' (v : Value) : Nat := match v with | .slice _ n _ => n | _ => 0
theorem getA8_bd {X : List Int} (h : IsB X) (p : Int) : 0 ≤ getA X p 8 ∧ getA X p 8 ≤ 18446744073709551615 := by
  unfold getA
  split
  · have := leN_le ((X.drop p.toNat).take (8 : Int).toNat) ((h.drop _).take _) 8 (by simp; omega)
    have h2 := this.2
    simp at h2
    exact ⟨this.1, by simp; omega⟩
  · omega
theorem allI_bd {l : List Int} (h : IsB l) (k : Nat) : ∀ v ∈ allI l k, 0 ≤ v ∧ v ≤ 18446744073709551615 := by
  intro v hv
  obtain ⟨i, _, rfl⟩ := List.mem_map.1 hv
  exact getA8_bd h _

def NewU (base : Nat) (w : World) (vs : List Int) (e : Ending) (w' : World) : Prop := ∃ a cap, e = .returned (.slice a vs.length cap) ∧ Own (Value.int .u64) 25 w' base a vs.length cap vs ∧ Below base w w'

set_option maxHeartbeats 600000 in
theorem all_any (a : Option Addr) (n c : Nat) (l : List Int) (w : World) (hr : RdB w a n c l) (hlen : n ≤ 1000000) :
    Calls Try.prog 36 #[.slice a n c] w (NewU w.heap.size w (allF l)) := by
  obtain rfl : l.length = n := hr.len
  have HR := Lib.hid hr
  clear hr
  go_enter Try.func36, Try.ntmps36
  go_wp2_with fail
  go_loopw [3, 4] (fun s i wr => ∃ (k : Nat) (a' : Option Addr) (c' : Nat) (I : Int), 8 * k ≤ l.length + 7 ∧ i = .int .i64 I ∧ I = ((8 * k : Nat) : Int) ∧ s = .slice a' k c' ∧ Own (Value.int .u64) 25 wr w.heap.size a' k c' (allI l k) ∧ Below w.heap.size w wr) (fun s _ _ => (l.length + 7) / 8 - lenS' s)
  case atStart => exact ⟨0, none, 0, _, by omega, rfl, rfl, rfl, Own.nil _ _ _ _, Below.refl _ _⟩
  case round =>
    obtain ⟨k, a', c', I, hk, rfl, hI, rfl, hown, hB⟩ := hrel
    have HO := Lib.hid hown
    have HB := Lib.hid hB
    have HI := Lib.hid hI
    have hI0 : 0 ≤ I ∧ I ≤ 1000100 := by omega
    obtain ⟨hI0, hI1⟩ := hI0
    have hsz := hB.size
    clear hown hB
    by_cases hlt : 8 * k < l.length
    · have hlt' : I < (l.length : Int) := by omega
      have HC := Lib.hid (get_any a l.length c l I 8 wr (HR.out.mono HB.out) (by omega))
      obtain ⟨b0, b1⟩ := getA8_bd HR.out.1 I
      obtain ⟨z, hz⟩ : ∃ z, getA l I 8 = z := ⟨_, rfl⟩
      rw [hz] at HC b0 b1
      have HZ := Lib.hid hz
      have ho := HO.out.alloc (.cells #[.int .u64 z] 25)
      have hf1 : (k + 1) * 8 ≤ 140737488355328 := by omega
      clear hz hI
      go_wp2_with fail
      refine HC.out.mono ?_
      rintro e w' ⟨rfl, rfl⟩
      go_wp2_with (at_builtin; go_must (refine wpList_appOwn rfl rfl Try.oneU rfl rfl ho (Rd.one _ _ _ _) (fun _ => rfl) hf1 (by omega) (by simp; omega) ?_); intro a4 c4 w4 ho4 hb4 _ _)
      go_roundw
      case rel =>
        refine ⟨k + 1, a4, c4, _, by omega, rfl, by have := HI.out; omega, rfl, ?_, ?_⟩
        · rw [allI_succ, ← HI.out, HZ.out]; exact ho4
        · exact (HB.out.alloc hsz _).trans hb4
      case measure => simp [lenS']; omega
    · have hge : ¬ I < (l.length : Int) := by omega
      obtain rfl : k = (l.length + 7) / 8 := by omega
      go_wp2_with fail
      go_ret
      have h1 := HO.out
      refine ⟨a', c', ?_, ?_, HB.out⟩
      · rw [allF_length]; rfl
      · rw [allF_length]; exact h1
end Go.Proofs.Ytojjgagcpkjkaaa
