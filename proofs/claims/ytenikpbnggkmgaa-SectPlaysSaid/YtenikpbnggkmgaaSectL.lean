/- What Read of sect.File, Keep compute; the file along a law's walk; the chapter's example. Conditions stand as premises. -/
import Derived.Test.YtenikpbnggkmgaaSectC
import Derived.Test.YtenikpbnggkmgaaNum
import Derived.Test.YtenikpbnggkmgaaSame
namespace Go.Proofs.Ytenikpbnggkmgaa
open Go.ChangeShapes Go.WideShapes Go.ChangeAt Go.RowKit
set_option linter.unusedVariables false

theorem sectread_no (base p : Nat) (b s : List Int) (F : Nat → Prop) (q m : Int) (w : World) (h : FileS w base p b s F) (hq : -9223372036854775808 ≤ q ∧ q ≤ 9223372036854775807) (hm : -9223372036854775808 ≤ m ∧ m ≤ 9223372036854775807) (h0 : freadC b q m ≠ 0) :
    Calls Try.prog 20 #[.pointer (some ⟨p, 0, none⟩), .int .i64 q, .int .i64 m] w fun e w' => e = .returned (.tuple #[.slice none 0 0, .int .i64 (freadC b q m)]) ∧ w = w' := by
  obtain ⟨a, n, c, a', n', c', h1, h2⟩ := h
  have hc := h1.c0
  have hlb := h1.lb
  obtain rfl : b.length = n := h1.x.len
  clear h1 h2
  unfold freadC at h0 ⊢
  by_cases h1 : q < 0
  · rw [if_pos (.inl h1)]
    clear h0
    go_enter Try.func20, Try.ntmps20
    go_wp2
    go_ret2
    exact ⟨rfl, rfl⟩
  · by_cases h2 : m < 0
    · rw [if_pos (.inr h2)]
      have h1' : 0 ≤ q := by omega
      clear h0 h1
      go_enter Try.func20, Try.ntmps20
      go_wp2
      go_ret2
      exact ⟨rfl, rfl⟩
    · rw [if_neg (by omega)] at h0 ⊢
      have h1' : 0 ≤ q := by omega
      have h2' : 0 ≤ m := by omega
      clear h1 h2
      by_cases h3 : (b.length : Int) < q
      · rw [if_pos (.inl h3)]
        clear h0
        go_enter Try.func20, Try.ntmps20
        go_wp2
        go_ret2
        exact ⟨rfl, rfl⟩
      · by_cases h4 : (b.length : Int) - q < m
        · rw [if_pos (.inr h4)]
          have h3' : q ≤ b.length := by omega
          clear h0 h3
          go_enter Try.func20, Try.ntmps20
          go_wp2
          go_ret2
          exact ⟨rfl, rfl⟩
        · rw [if_neg (by omega)] at h0
          exact absurd rfl h0

theorem sectread_yes (base p : Nat) (b s : List Int) (F : Nat → Prop) (q m : Int) (w : World) (h : FileS w base p b s F) (h1 : 0 ≤ q) (h2 : 0 ≤ m) (h3 : q ≤ b.length) (h4 : m ≤ (b.length : Int) - q) :
    Calls Try.prog 20 #[.pointer (some ⟨p, 0, none⟩), .int .i64 q, .int .i64 m] w fun e w' => ∃ a c, e = .returned (.tuple #[.slice a ((b.drop q.toNat).take m.toNat).length c, .int .i64 0]) ∧ OwnB 5 w' w.heap.size a ((b.drop q.toNat).take m.toNat).length c ((b.drop q.toNat).take m.toNat) ∧ Below w.heap.size w w' := by
  obtain ⟨a, n, c, a', n', c', hA, hF⟩ := h
  have hc := hA.c0
  have hlb := hA.lb
  obtain rfl : b.length = n := hA.x.len
  have hr := hA.x.rd
  have hrr := hr.2
  have hcap := hr.2.2.1
  have hXB : IsB ((b.drop q.toNat).take m.toNat) := (hr.1.drop _).take _
  have hXl : ((b.drop q.toNat).take m.toNat).length = m.toNat := by simp; omega
  clear hA hF hr
  obtain ⟨X, hX⟩ : ∃ X, (b.drop q.toNat).take m.toNat = X := ⟨_, rfl⟩
  rw [hX] at hXB hXl ⊢
  have HX := Lib.hid hX
  have HXl := Lib.hid hXl
  have hl : X.length ≤ 32768 := by omega
  clear hX hXl
  go_enter Try.func20, Try.ntmps20
  go_wp2_with (with_reducible refine wpList_cut rfl rfl Try.oneB rfl rfl rfl hrr (by omega) (by omega) (by omega) ?_; intro a3 hr3 hs3)
  have e : (q + m).toNat - q.toNat = X.length := by have := HXl.out; omega
  rw [e] at hr3 ⊢
  rw [show (b.drop q.toNat).take X.length = X by rw [HXl.out]; exact HX.out] at hr3
  clear hs3 e
  refine (clone_any a3 _ _ X w ⟨hXB, hr3⟩ (by omega)).mono ?_
  rintro e w' ⟨a1, c1, rfl, ho, hb⟩
  go_wp2_with fail
  go_ret2
  exact ⟨a1, c1, rfl, ho, hb⟩

/-- Bytes of the call's own and a code. -/
def NewBC (base : Nat) (w : World) (l : List Int) (k : Int) (e : Ending) (w' : World) : Prop := ∃ a cap, e = .returned (.tuple #[.slice a l.length cap, .int .i64 k]) ∧ OwnB 5 w' base a l.length cap l ∧ Below base w w'

theorem sectread_any (base p : Nat) (b s : List Int) (F : Nat → Prop) (q m : Int) (w : World) (h : FileS w base p b s F) (hq : -9223372036854775808 ≤ q ∧ q ≤ 9223372036854775807) (hm : -9223372036854775808 ≤ m ∧ m ≤ 9223372036854775807) :
    Calls Try.prog 20 #[.pointer (some ⟨p, 0, none⟩), .int .i64 q, .int .i64 m] w (NewBC w.heap.size w (freadL b q m) (freadC b q m)) := by
  by_cases h0 : freadC b q m = 0
  · have hh : 0 ≤ q ∧ 0 ≤ m ∧ q ≤ b.length ∧ m ≤ (b.length : Int) - q := by
      unfold freadC at h0
      repeat' split at h0
      all_goals first | (exfalso; exact absurd h0 (by decide)) | omega
    unfold freadL
    rw [if_pos h0, h0]
    exact (sectread_yes base p b s F q m w h hh.1 hh.2.1 hh.2.2.1 hh.2.2.2).mono (fun e w' ⟨a, c, h1, h2, h3⟩ => ⟨a, c, h1, h2, h3⟩)
  · unfold freadL
    rw [if_neg h0]
    refine (sectread_no base p b s F q m w h hq hm h0).mono ?_
    rintro e w' ⟨rfl, rfl⟩
    exact ⟨none, 0, rfl, ⟨IsB.nil, Own.nil _ _ _ _⟩, Below.refl _ _⟩

/-- The file along a law's walk. -/
theorem FileS.go {w0 w w' : World} {p : Nat} {b s b' s' : List Int} {F : Nat → Prop} (h : FileS w w0.heap.size p b s F) (hb : Below w0.heap.size w0 w) (hs : FileStep w w0.heap.size p F b' s' w') :
    ∃ F', FileS w' w0.heap.size p b' s' F' ∧ Below w0.heap.size w0 w' ∧ Upd F w w' := by
  obtain ⟨F', h1, h2, h3⟩ := hs
  exact ⟨F', h1, hb.trans (h2.below hb.size (fun k hk => (h.mem hk).1)), h2⟩

theorem first5_plain : crashI (writeL [] 600 [120]) [] [false, true] = List.replicate 600 0 ++ [120] := by decide +kernel

theorem Try.boolInfo : (Try.prog.info? 4).map (fun i => (i.zero, i.size, i.bytes)) = some (some (.bool false), 1, 1) := by kernel_rfl
theorem Try.oneBo : OneInfo Try.prog 37 4 1 := by
  obtain ⟨i, hi, h0, h1, h2⟩ := info_parts Try.boolInfo
  exact ⟨Try.underlying37, i, _, hi, h0, h1, h2, rfl⟩

set_option maxHeartbeats 1000000 in
theorem sfirst_any (w : World) :
    Calls Try.prog 7 #[] w fun e w' => e = .returned (.bool true) ∧ Below w.heap.size w w' := by
  have kc := fun (w : World) (C : Array Value) (n c : Nat) => Lib.run_convert_bytes_const (P := Try.prog) w 22 5 C n c Try.underlying22 Try.underlying5
  go_enter Try.func7, Try.ntmps7
  go_wp2_with fail
  refine (sectnew _).mono ?_
  rintro e w1 ⟨rfl, hs1, hb1⟩
  have hs2 := hs1.below (below_alloc w1 (.cells #[.int .u8 120] 5 (1, 2)))
  have hb2 := hb1.alloc hb1.size (.cells #[.int .u8 120] 5 (1, 2))
  have hr2 := RdB.marked w1 [120] 5 (1, 2) #[.int .u8 120] 1 1 rfl rfl (by omega) (by unfold maxLen; omega) (by intro x hx; simp at hx; omega)
  have hlt := hb1.size
  go_wp2_with fail
  refine (sectwrite_any _ _ _ _ _ 600 _ _ _ [120] _ hs2 hr2 (fun _ x hx e => by cases hx; have := (hs1.mem rfl).2; simp at e; omega) (by omega) (by omega)).mono ?_
  rintro e w3 ⟨rfl, hst⟩
  obtain ⟨F3, hs3, hb3, _⟩ := hs2.go hb2 hst
  clear hst hs2 hb2 hr2 hs1 hb1
  have hs4 := hs3.below (below_alloc w3 (.cells #[.bool false, .bool true] 4))
  have hb4 := hb3.alloc hb3.size (.cells #[.bool false, .bool true] 4)
  have hk := (Own.lit (enc := encBo) (base := 0) (e := 4) (w := w3) [false, true] #[.bool false, .bool true] 2 rfl rfl (Nat.zero_le _) (by unfold maxLen; omega)).rd
  go_wp2_with fail
  refine (sectcrash _ _ _ _ _ _ _ _ [false, true] _ hs4 hk (by omega)).mono ?_
  rintro e w5 ⟨rfl, hst⟩
  obtain ⟨F5, hs5, hb5, _⟩ := hs4.go hb4 hst
  rw [first5_plain] at hs5
  clear hst hs4 hb4 hk hs3 hb3
  obtain ⟨X, hX⟩ : ∃ X : List Int, List.replicate 600 0 ++ [120] = X := ⟨_, rfl⟩
  rw [hX] at hs5
  have x0 : X.length = 601 := by rw [← hX, List.length_append, List.length_replicate]; rfl
  have x1 : X[0]? = some 0 := by rw [← hX, List.getElem?_append_left (by rw [List.length_replicate]; omega), List.getElem?_replicate, if_pos (by omega)]
  have x2 : X[600]? = some 120 := by rw [← hX, List.getElem?_append_right (by rw [List.length_replicate]; omega), List.length_replicate]; rfl
  clear hX
  have X0 := Lib.hid x0
  have X1 := Lib.hid x1
  have X2 := Lib.hid x2
  clear x0 x1 x2
  go_wp2_with fail
  refine (sectall _ _ _ _ _ _ hs5).mono ?_
  rintro e w6 ⟨a6, c6, rfl, ho6, hb6⟩
  rw [X0.out] at ho6 ⊢
  obtain ⟨g, rfl, _, _⟩ := ho6.2.at (by omega)
  have k1 := ho6.2.cell 600 120 X2.out
  have k2 := ho6.2.cell 0 0 X1.out
  have hl := sectlen _ _ _ _ _ _ (hs5.below hb6)
  rw [X0.out] at hl
  have HL := Lib.hid hl
  have HB := Lib.hid (hb5.trans (hb6.mono hb5.size))
  clear hl ho6 hb6 hs5 hb5
  go_wp2_with fail
  refine HL.out.mono ?_
  rintro e w7 ⟨rfl, rfl⟩
  go_wp2_with fail
  go_ret
  exact ⟨rfl, HB.out⟩
end Go.Proofs.Ytenikpbnggkmgaa
