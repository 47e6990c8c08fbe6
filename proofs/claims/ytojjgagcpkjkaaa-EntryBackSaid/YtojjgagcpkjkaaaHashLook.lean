/- What hash.Lookup computes. Conditions stand as premises. -/
import Derived.Test.YtojjgagcpkjkaaaHashMix
import Derived.Test.YtojjgagcpkjkaaaLeGet
import Derived.Test.YtojjgagcpkjkaaaZerosAt
import Derived.Test.YtojjgagcpkjkaaaClone
import Derived.Outline
import Derived.Deep.Cut
namespace Go.Proofs.Ytojjgagcpkjkaaa
open Go.ChangeShapes Go.WideShapes Go.ChangeAt Go.RowKit
set_option linter.unusedVariables false

def lenS (v : Value) : Nat := match v with | .slice _ n _ => n | _ => 0
abbrev T3 := Int × Int × Int
def addF (t : T3) (X : List Int) : T3 := ((t.1 + getA X 0 4) % 4294967296, (t.2.1 + getA X 4 4) % 4294967296, (t.2.2 + getA X 8 4) % 4294967296)
theorem getA4_bd {X : List Int} (h : IsB X) (p : Int) : 0 ≤ getA X p 4 ∧ getA X p 4 ≤ 4294967295 := by
  unfold getA
  split
  · have := leN_le ((X.drop p.toNat).take (4 : Int).toNat) ((h.drop _).take _) 4 (by simp; omega)
    have h2 := this.2
    simp at h2
    exact ⟨this.1, by simp; omega⟩
  · omega

set_option maxHeartbeats 600000 in
theorem addtrio_any (p : Nat) (x y z : Int) (a : Option Addr) (n c : Nat) (X : List Int) (w : World) (h : Trio w p x y z) (hr : RdB w a n c X) (hn : n ≤ 1000) :
    Calls Try.prog 41 #[.pointer (some ⟨p, 0, none⟩), .slice a n c] w fun e w' => e = .returned (.tuple #[]) ∧ TrioStep w p (addF (x, y, z) X) w' := by
  have c0 := h.c0
  have c1 := h.c1
  have c2 := h.c2
  have f0 := h.f0
  have f1 := h.f1
  have f2 := h.f2
  have H := Lib.hid h
  obtain ⟨b00, b01⟩ := getA4_bd hr.1 0
  obtain ⟨b40, b41⟩ := getA4_bd hr.1 4
  obtain ⟨b80, b81⟩ := getA4_bd hr.1 8
  have G0 := Lib.hid (get_any a n c X 0 4 w hr (by omega))
  have G4 := Lib.hid (get_any a n c X 4 4 w hr (by omega))
  have G8 := Lib.hid (get_any a n c X 8 4 w hr (by omega))
  clear h hr
  generalize hg0 : getA X 0 4 = g0 at *
  generalize hg4 : getA X 4 4 = g4 at *
  generalize hg8 : getA X 8 4 = g8 at *
  have HD := Lib.hid (show addF (x, y, z) X = ((x + g0) % 4294967296, (y + g4) % 4294967296, (z + g8) % 4294967296) by simp only [addF, hg0, hg4, hg8])
  clear hg0 hg4 hg8
  go_enter Try.func41, Try.ntmps41
  go_wp2_with fail
  refine G0.out.mono ?_
  rintro e w' ⟨rfl, rfl⟩
  go_wp2_with fail
  refine G4.out.mono ?_
  rintro e w' ⟨rfl, rfl⟩
  go_wp2_with fail
  refine G8.out.mono ?_
  rintro e w' ⟨rfl, rfl⟩
  go_wp2_with fail
  go_end0
  refine ⟨rfl, ?_⟩
  rw [HD.out]
  exact TrioStep.mk3 (n := 0) (w := w) H.out (mod_bd _) (mod_bd _) (mod_bd _)

/-- The numbers after so many pieces of twelve bytes. -/
def iterT (l : List Int) (t : T3) : Nat → T3
  | 0 => t
  | i + 1 => mixF (addF (iterT l t i) ((l.drop (12 * i)).take 12))
def pieces (n : Nat) : Nat := (n - 1) / 12
def startT (n : Nat) : T3 := (3735928559 + (n : Int), 3735928559 + (n : Int), 3735928559 + (n : Int))
def endT (l : List Int) : T3 := iterT l (startT l.length) (pieces l.length)
def restL (l : List Int) : List Int := l.drop (12 * pieces l.length) ++ List.replicate (12 - (l.length - 12 * pieces l.length)) 0
def hashT (l : List Int) : T3 := if l = [] then endT l else lastF (addF (endT l) (restL l))
def lookF (l : List Int) : Int := bits .or .u64 ((hashT l).2.2 * 4294967296) (hashT l).2.1

theorem TrioStep.bounds {w w' : World} {p : Nat} {t : T3} (h : TrioStep w p t w') : Trio w' p t.1 t.2.1 t.2.2 := h.1

set_option maxRecDepth 100000 in
set_option maxHeartbeats 1000000 in
theorem hashlook_any (a : Option Addr) (n c : Nat) (l : List Int) (w : World) (hr : RdB w a n c l) (hn : n ≤ 100000) :
    Calls Try.prog 29 #[.slice a n c] w fun e w' => e = .returned (.int .u64 (lookF l)) ∧ Below w.heap.size w w' := by
  obtain rfl : l.length = n := hr.len
  obtain ⟨s, hs⟩ : ∃ s : Int, 3735928559 + (l.length : Int) = s := ⟨_, rfl⟩
  have HS := Lib.hid hs
  have HST := Lib.hid (show startT l.length = (s, s, s) by unfold startT; rw [hs])
  have hsb : 0 ≤ s ∧ s ≤ 4294967295 := by omega
  have hT0 : Trio (w.alloc (.cells #[.int .u32 s, .int .u32 s, .int .u32 s] 92)) w.heap.size s s s := by
    have h := heap_alloc_new w (.cells #[.int .u32 s, .int .u32 s, .int .u32 s] 92)
    exact ⟨lt_of_heap h, cell_of_heap h 0 _ rfl, cell_of_heap h 1 _ rfl, cell_of_heap h 2 _ rfl, free_of_heap h _, free_of_heap h _, free_of_heap h _, hsb, hsb, hsb⟩
  have HR := Lib.hid hr
  have HT0 := Lib.hid hT0
  clear hs hr hT0
  go_enter Try.func29, Try.ntmps29
  go_upto_region 2 with fail
  rw [HS.out]
  go_wp2_with fail
  go_loopw [0] (fun b wr => ∃ (i : Nat) (A : Option Addr) (C : Nat), i ≤ pieces l.length ∧ b = .slice A (l.length - 12 * i) C ∧ (∀ w', Below w.heap.size w w' → RdB w' A (l.length - 12 * i) C (l.drop (12 * i))) ∧ Trio wr w.heap.size (iterT l (startT l.length) i).1 (iterT l (startT l.length) i).2.1 (iterT l (startT l.length) i).2.2 ∧ Below w.heap.size w wr) (fun b _ => lenS b)
  case atStart => exact ⟨0, a, c, Nat.zero_le _, rfl, fun w' hb => by simpa using HR.out.mono hb, by rw [iterT, HST.out]; exact HT0.out, below_alloc w _⟩
  case round =>
    obtain ⟨i, A, C, hi, rfl, hA, hT, hB⟩ := hrel
    have hsz := hB.size
    have hpi : 12 * i ≤ l.length := by unfold pieces at hi; omega
    obtain ⟨⟨x, y, z⟩, hxyz⟩ : ∃ t, iterT l (startT l.length) i = t := ⟨_, rfl⟩
    have HXYZ := Lib.hid hxyz
    rw [hxyz] at hT
    simp only at hT
    clear hxyz
    have HA := Lib.hid hA
    have hrw := (hA wr hB).2
    have HT := Lib.hid hT
    clear hA hT
    by_cases hlt : i < pieces l.length
    · have h12 : 12 * i + 12 < l.length := by unfold pieces at hlt; omega
      have h12' : (12 : Int) < ((l.length - 12 * i : Nat) : Int) := by omega
      have hle12 : 12 * i ≤ l.length := by omega
      obtain ⟨m, hm⟩ : ∃ m, l.length - 12 * i = m := ⟨_, rfl⟩
      have HM := Lib.hid hm
      rw [hm] at HA hrw h12' ⊢
      clear hm
      go_wp2_with (with_reducible refine wpList_cutH rfl rfl Try.oneB rfl rfl hrw (by omega) (by omega) ?_; intro a3 hr3 hs3)
      have hr3' : RdB wr a3 12 C ((l.drop (12 * i)).take 12) := ⟨((HR.out.1.drop _).take _), hr3⟩
      clear hr3 hs3
      refine (addtrio_any _ x y z a3 12 C _ wr HT.out hr3' (by omega)).mono ?_
      rintro e w3 ⟨rfl, hT3, hu3⟩
      have hB3 := hB.trans (hu3.below hsz (fun k hk => by rw [hk]; exact Nat.le_refl _))
      go_wp2_with fail
      refine (mix_any _ _ _ _ w3 hT3).mono ?_
      rintro e w4 ⟨rfl, hT4, hu4⟩
      have hB4 := hB3.trans (hu4.below hB3.size (fun k hk => by rw [hk]; exact Nat.le_refl _))
      have hrw4 := (HA.out w4 hB4).2
      have HT4 := Lib.hid hT4
      have HB4 := Lib.hid hB4
      clear hT3 hT4 hu3 hu4 hB3 hB4 hrw hr3'
      go_wp2_with (with_reducible refine wpList_cutL rfl rfl Try.oneB rfl rfl hrw4 (by omega) (by omega) ?_; intro a5 hr5 hs5)
      go_roundw
      case rel =>
        have e1 : m - 12 = l.length - 12 * (i + 1) := by have := HM.out; omega
        have e2 : (l.drop (12 * i)).drop 12 = l.drop (12 * (i + 1)) := by rw [List.drop_drop]; congr 1
        refine ⟨i + 1, a5, C - 12, by omega, by rw [← e1], fun w' hb => ?_, ?_, HB4.out⟩
        · have := hs5 w' (HA.out w' hb).2
          rw [← e1, ← e2]
          exact ⟨((HR.out.1.drop _).drop _), this⟩
        · rw [iterT, HXYZ.out]
          exact HT4.out
      case measure => simp [lenS]; omega
    · have hie : i = pieces l.length := by omega
      have HIE := Lib.hid hie
      obtain ⟨m, hm⟩ : ∃ m, l.length - 12 * i = m := ⟨_, rfl⟩
      have hm12 : m ≤ 12 := by unfold pieces at hie; omega
      have HM := Lib.hid hm
      rw [hm] at HA hrw ⊢
      clear hm hie
      have hm12' : (m : Int) ≤ 12 := by omega
      by_cases hm0 : m = 0
      · have hz0 : (m : Int) ≤ 0 := by omega
        have hl0 : l = [] := List.eq_nil_of_length_eq_zero (by have := HM.out; have := HIE.out; unfold pieces at this; omega)
        have HV := Lib.hid (show lookF l = bits .or .u64 (z * 4294967296) y by
          have e : hashT l = (x, y, z) := by unfold hashT; rw [if_pos hl0]; unfold endT; rw [← HIE.out]; exact HXYZ.out
          unfold lookF; rw [e])
        have c1 := HT.out.c1
        have c2 := HT.out.c2
        obtain ⟨z0, z1⟩ := HT.out.bz
        obtain ⟨y0, y1⟩ := HT.out.by_
        clear hm0 hl0
        go_wp2_with fail
        go_ret
        exact ⟨by rw [HV.out]; rfl, hB⟩
      · have hz0 : (0 : Int) < (m : Int) := by omega
        go_upto_region 9 with fail
        have hX := heap_alloc_new wr (.cells #[.int .u8 0, .int .u8 0, .int .u8 0, .int .u8 0, .int .u8 0, .int .u8 0, .int .u8 0, .int .u8 0, .int .u8 0, .int .u8 0, .int .u8 0, .int .u8 0] 94)
        have HU1 := Lib.hid (below_alloc wr (.cells #[.int .u8 0, .int .u8 0, .int .u8 0, .int .u8 0, .int .u8 0, .int .u8 0, .int .u8 0, .int .u8 0, .int .u8 0, .int .u8 0, .int .u8 0, .int .u8 0] 94))
        generalize wr.alloc (.cells #[.int .u8 0, .int .u8 0, .int .u8 0, .int .u8 0, .int .u8 0, .int .u8 0, .int .u8 0, .int .u8 0, .int .u8 0, .int .u8 0, .int .u8 0, .int .u8 0] 94) = w1 at hX HU1 ⊢
        have HO : Hid (Own (Value.int .u8) 94 w1 wr.heap.size (some ⟨wr.heap.size, 0, none⟩) 12 12 (List.replicate 12 0)) := Lib.hid ⟨rfl, rfl, .inr ⟨_, _, _, rfl, Nat.le_refl _, hX, Nat.le_refl _, by simp [maxLen], rfl, rfl⟩⟩
        have HX := Lib.hid (lt_of_heap hX)
        clear hX
        have hne : l ≠ [] := by
          rintro rfl
          have := HM.out
          simp at this
          omega
        have hl2 : List.drop (12 * i) l = List.drop (12 * pieces l.length) l := by rw [HIE.out]
        have hrl : spliceL (List.replicate 12 0) 0 (List.drop (12 * i) l) = restL l := by
          have h1 : (List.drop (12 * i) l).length = m := by rw [List.length_drop]; exact HM.out
          unfold restL
          rw [← HIE.out, HM.out]
          generalize hY : List.drop (12 * i) l = Y at h1 ⊢
          unfold spliceL
          rw [List.take_zero, List.nil_append, List.drop_replicate, h1, Nat.zero_add]
        have hib : IsB (restL l) := by
          unfold restL
          exact IsB.append (HR.out.1.drop _) (IsB.replicate _)
        have HRL := Lib.hid hrl
        have HIB := Lib.hid hib
        have HV := Lib.hid (show lookF l = bits .or .u64 ((lastF (addF (x, y, z) (restL l))).2.2 * 4294967296) (lastF (addF (x, y, z) (restL l))).2.1 by
          have e : hashT l = lastF (addF (x, y, z) (restL l)) := by
            unfold hashT; rw [if_neg hne]; unfold endT; rw [← HIE.out, HXYZ.out]
          unfold lookF; rw [e])
        have hrw1 := (HA.out w1 (hB.trans (HU1.out.mono hsz))).2
        have hl2' : (List.drop (12 * i) l).length = m := by rw [List.length_drop]; exact HM.out
        clear hne hl2 hrl hib hrw
        go_wp2_with (with_reducible refine wpList_copyAt rfl rfl Try.oneB rfl rfl HO.out hrw1 (by omega) (by omega) (fun _ => rfl) ?_; intro w2 ho2 hu2)
        have hB1 := hB.trans (HU1.out.mono hsz)
        have hlt1 : wr.heap.size < w1.heap.size := HX.out
        have hB2 : Below w.heap.size w w2 := hB1.trans (hu2.below hB1.size (fun k hk => by rw [hk]; exact hsz))
        have hpl : w.heap.size < wr.heap.size := HT.out.lt
        have hT2 : Trio w2 w.heap.size x y z := (HT.out.below HU1.out).upd hu2 (fun h => by omega)
        have hr3 : RdB w2 (some ⟨wr.heap.size, 0, none⟩) 12 12 (restL l) := ⟨HIB.out, by rw [← HRL.out]; exact ho2.rd⟩
        clear ho2 hu2 hrw1
        refine (addtrio_any _ x y z _ 12 12 _ w2 hT2 hr3 (by omega)).mono ?_
        rintro e w3 ⟨rfl, hT3, hu3⟩
        have hB3 := hB2.trans (hu3.below hB2.size (fun k hk => by rw [hk]; exact Nat.le_refl _))
        go_wp2_with fail
        refine (last_any _ _ _ _ w3 hT3).mono ?_
        rintro e w4 ⟨rfl, hT4, hu4⟩
        have hB4 := hB3.trans (hu4.below hB3.size (fun k hk => by rw [hk]; exact Nat.le_refl _))
        have e0 : addF (x, y, z) (restL l) = ((addF (x, y, z) (restL l)).1, (addF (x, y, z) (restL l)).2.1, (addF (x, y, z) (restL l)).2.2) := rfl
        rw [← e0] at hT4
        have HV2 := Lib.hid HV.out
        obtain ⟨t4, ht4⟩ : ∃ t, lastF (addF (x, y, z) (restL l)) = t := ⟨_, rfl⟩
        have HV3 := Lib.hid (show lookF l = bits .or .u64 (t4.2.2 * 4294967296) t4.2.1 by rw [← ht4]; exact HV.out)
        rw [ht4] at hT4
        clear ht4 e0 HV HV2 hT3 hT2 hu3 hu4
        obtain ⟨x4, y4, z4⟩ := t4
        simp only at hT4
        have c1 := hT4.c1
        have c2 := hT4.c2
        obtain ⟨q0, q1⟩ := hT4.bz
        obtain ⟨r0, r1⟩ := hT4.by_
        clear hT4
        go_wp2_with fail
        go_ret
        exact ⟨by rw [HV3.out]; rfl, hB4⟩
end Go.Proofs.Ytojjgagcpkjkaaa
