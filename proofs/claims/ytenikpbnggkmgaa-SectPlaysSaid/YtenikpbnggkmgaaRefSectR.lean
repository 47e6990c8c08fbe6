/- What Read, Sync, part, Dirty, Copy of the document's file compute; SameInts. Conditions stand as premises. -/
import Derived.Test.YtenikpbnggkmgaaRefSectI
import Derived.Test.YtenikpbnggkmgaaSectL
import Derived.Test.YtenikpbnggkmgaaAppStr
import Derived.Deep.RegionHeld3
import Derived.Outline
import Derived.Test.YtenikpbnggkmgaaRows2
namespace Go.Proofs.Ytenikpbnggkmgaa
open Go.ChangeShapes Go.WideShapes Go.ChangeAt Go.RowKit
set_option linter.unusedVariables false

theorem RefS.cells {w : World} {base p : Nat} {b s : List Int} {G : Nat → Prop} (h : RefS w base p b s G) : ∃ a c a' c', w.cell? ⟨p, 0, none⟩ = some (.slice a b.length c) ∧ w.cell? ⟨p, 1, none⟩ = some (.slice a' s.length c') ∧ RdB w a b.length c b ∧ RdB w a' s.length c' s := by
  obtain ⟨a, n, c, a', n', c', z, h1, h2⟩ := h
  obtain rfl : b.length = n := h1.x.len
  obtain rfl : s.length = n' := h1.y.len
  exact ⟨a, c, a', c', h1.c0, h1.c1, h1.x.rd, h1.y.rd⟩

theorem refread_no (base p : Nat) (b s : List Int) (F : Nat → Prop) (q m : Int) (w : World) (h : RefS w base p b s F) (hq : -9223372036854775808 ≤ q ∧ q ≤ 9223372036854775807) (hm : -9223372036854775808 ≤ m ∧ m ≤ 9223372036854775807) (h0 : freadC b q m ≠ 0) :
    Calls Try.prog 25 #[.pointer (some ⟨p, 0, none⟩), .int .i64 q, .int .i64 m] w fun e w' => e = .returned (.tuple #[.slice none 0 0, .int .i64 (freadC b q m)]) ∧ w = w' := by
  have hlb := h.lens.1
  obtain ⟨a, c, a', c', hc, _, _, _⟩ := h.cells
  clear h
  unfold freadC at h0 ⊢
  by_cases h1 : q < 0
  · rw [if_pos (.inl h1)]
    clear h0
    go_enter Try.func25, Try.ntmps25
    go_wp2
    go_ret2
    exact ⟨rfl, rfl⟩
  · by_cases h2 : m < 0
    · rw [if_pos (.inr h2)]
      have h1' : 0 ≤ q := by omega
      clear h0 h1
      go_enter Try.func25, Try.ntmps25
      go_wp2
      go_ret2
      exact ⟨rfl, rfl⟩
    · rw [if_neg (by omega)] at h0 ⊢
      have h1' : 0 ≤ q := by omega
      have h2' : 0 ≤ m := by omega
      clear h1 h2
      by_cases h3 : (b.length : Int) < q
      · rw [if_pos (.inl h3)]
        clear h0
        go_enter Try.func25, Try.ntmps25
        go_wp2
        go_ret2
        exact ⟨rfl, rfl⟩
      · by_cases h4 : (b.length : Int) - q < m
        · rw [if_pos (.inr h4)]
          have h3' : q ≤ b.length := by omega
          clear h0 h3
          go_enter Try.func25, Try.ntmps25
          go_wp2
          go_ret2
          exact ⟨rfl, rfl⟩
        · rw [if_neg (by omega)] at h0
          exact absurd rfl h0

theorem refread_yes (base p : Nat) (b s : List Int) (F : Nat → Prop) (q m : Int) (w : World) (h : RefS w base p b s F) (h1 : 0 ≤ q) (h2 : 0 ≤ m) (h3 : q ≤ b.length) (h4 : m ≤ (b.length : Int) - q) :
    Calls Try.prog 25 #[.pointer (some ⟨p, 0, none⟩), .int .i64 q, .int .i64 m] w fun e w' => ∃ a c, e = .returned (.tuple #[.slice a ((b.drop q.toNat).take m.toNat).length c, .int .i64 0]) ∧ OwnB 5 w' w.heap.size a ((b.drop q.toNat).take m.toNat).length c ((b.drop q.toNat).take m.toNat) ∧ Below w.heap.size w w' := by
  have hlb := h.lens.1
  obtain ⟨a, c, a', c', hc, _, hr0, _⟩ := h.cells
  have hlt : p < w.heap.size := (h.mem h.own).2
  have hca := bcell (below_alloc w (.cells #[] 5)) hlt hc
  have hr := hr0.mono (below_alloc w (.cells #[] 5))
  clear hr0
  have hrr := hr.2
  have hcap := hr.2.2.1
  have hXB : IsB ((b.drop q.toNat).take m.toNat) := (hr.1.drop _).take _
  have hXl : ((b.drop q.toNat).take m.toNat).length = m.toNat := by simp; omega
  have ho1 : Own (Value.int .u8) 5 (w.alloc (.cells #[] 5)) w.heap.size (some ⟨w.heap.size, 0, none⟩) 0 0 [] := Own.lit [] _ 0 rfl rfl (Nat.le_refl _) (Nat.zero_le _)
  clear h hr
  obtain ⟨X, hX⟩ : ∃ X, (b.drop q.toNat).take m.toNat = X := ⟨_, rfl⟩
  rw [hX] at hXB hXl ⊢
  have HX := Lib.hid hX
  have HXl := Lib.hid hXl
  have hl : X.length ≤ 32768 := by omega
  have HE := Lib.hid (show (q + m).toNat - q.toNat = X.length by omega)
  have HX2 := Lib.hid (show (b.drop q.toNat).take X.length = X by rw [hXl]; exact hX)
  clear hX hXl
  go_enter Try.func25, Try.ntmps25
  go_wp2_with (first | (with_reducible refine wpList_cut rfl rfl Try.oneB rfl rfl rfl hrr (by omega) (by omega) (by omega) ?_; intro a3 hr3 hs3; rw [HE.out] at hr3 ⊢; rw [HX2.out] at hr3; clear hs3) | (at_builtin; (refine wpList_appOwn rfl rfl Try.oneB rfl rfl ho1 hr3 (fun _ => rfl) (by omega) (by omega) (by simp) ?_); intro a4 c4 w4 ho4 hb4 _ _))
  go_ret2
  rw [Nat.zero_add] at ho4
  exact ⟨a4, c4, rfl, ⟨hXB, ho4⟩, (below_alloc w _).trans hb4⟩

theorem refread_any (base p : Nat) (b s : List Int) (F : Nat → Prop) (q m : Int) (w : World) (h : RefS w base p b s F) (hq : -9223372036854775808 ≤ q ∧ q ≤ 9223372036854775807) (hm : -9223372036854775808 ≤ m ∧ m ≤ 9223372036854775807) :
    Calls Try.prog 25 #[.pointer (some ⟨p, 0, none⟩), .int .i64 q, .int .i64 m] w (NewBC w.heap.size w (freadL b q m) (freadC b q m)) := by
  by_cases h0 : freadC b q m = 0
  · have hh : 0 ≤ q ∧ 0 ≤ m ∧ q ≤ b.length ∧ m ≤ (b.length : Int) - q := by
      unfold freadC at h0
      repeat' split at h0
      all_goals first | (exfalso; exact absurd h0 (by decide)) | omega
    unfold freadL
    rw [if_pos h0, h0]
    exact (refread_yes base p b s F q m w h hh.1 hh.2.1 hh.2.2.1 hh.2.2.2).mono (fun e w' ⟨a, c, h1, h2, h3⟩ => ⟨a, c, h1, h2, h3⟩)
  · unfold freadL
    rw [if_neg h0]
    refine (refread_no base p b s F q m w h hq hm h0).mono ?_
    rintro e w' ⟨rfl, rfl⟩
    exact ⟨none, 0, rfl, ⟨IsB.nil, Own.nil _ _ _ _⟩, Below.refl _ _⟩

/-- The safe bytes are those that are there. -/
theorem RefAt.sync {w : World} {base p : Nat} {a : Option Addr} {n c : Nat} {b : List Int} {a' : Option Addr} {n' c' : Nat} {s : List Int} {z : Int} (h : RefAt w base p a n c b a' n' c' s z) :
    RefAt (w.setCell ⟨p, 1, none⟩ (.slice a n c)) base p a n c b a n c b z := by
  have hS : Upd (· = p) w (w.setCell ⟨p, 1, none⟩ (.slice a n c)) := Upd.setCell _ _ _ rfl
  have hx := h.x.upd hS (fun z hz e => h.na (mem_blk.2 ⟨z, hz, e⟩))
  exact ⟨h.le, by simpa using h.lt, keep_set (by decide) h.c0, World.cell?_setCell_same _ _ _ h.c1, keep_set (by decide) h.c2, by simpa using h.f0, by simpa using h.f1, hx, hx, h.na, h.na, h.lb, h.lb⟩

theorem refsync (base p : Nat) (b s : List Int) (G : Nat → Prop) (w : World) (h : RefS w base p b s G) :
    Calls Try.prog 22 #[.pointer (some ⟨p, 0, none⟩)] w fun e w' => e = .returned (.tuple #[]) ∧ RefStep w base p G b b w' := by
  obtain ⟨a, n, c, a', n', c', z, h1, h2⟩ := h
  have hc0 := h1.c0
  have hc1 := h1.c1
  have hf1 := h1.f1
  have HS := Lib.hid h1.sync
  clear h1
  go_enter Try.func22, Try.ntmps22
  go_wp2_with fail
  go_end0
  exact ⟨rfl, _, ⟨_, _, _, _, _, _, _, HS.out, fun j => Iff.rfl⟩, Upd.setCell _ _ _ rfl, fun j hj => .inl ((h2 j).2 (by
    rcases List.mem_cons.1 hj with rfl | hj
    · exact List.mem_cons_self
    · rcases List.mem_append.1 hj with hj | hj <;> exact List.mem_cons_of_mem _ (List.mem_append_left _ hj)))⟩

theorem bstr_nil : bstr [] = ⟨#[]⟩ := rfl

set_option maxRecDepth 100000 in
theorem part_any (a : Option Addr) (n c i : Nat) (l : List Int) (w : World) (hr : RdB w a n c l) (hi : i ≤ 10000) (hn : n ≤ 140737488351232) :
    Calls Try.prog 33 #[.slice a n c, .int .i64 i] w fun e w' => e = .returned (.string (bstr (sec l i))) ∧ w = w' := by
  obtain rfl : l.length = n := hr.len
  have hcap := hr.2.2.1
  by_cases hA : (l.length : Int) ≤ (i : Int) * 512
  · have HS := Lib.hid (show sec l i = [] by unfold sec; rw [List.drop_of_length_le (by omega)]; rfl)
    clear hr
    go_enter Try.func33, Try.ntmps33
    go_wp2_with fail
    go_ret
    exact ⟨by rw [HS.out]; rfl, rfl⟩
  · have hB : (i : Int) * 512 < l.length := by omega
    clear hA
    by_cases hC : (l.length : Int) < (i : Int) * 512 + 512
    · have HS := Lib.hid (show (l.drop (i * 512)).take (l.length - i * 512) = sec l i by
        rw [Nat.mul_comm i 512]; unfold sec
        rw [List.take_of_length_le (by simp), List.take_of_length_le (by simp; omega)])
      have hR := hr.2
      have HB := Lib.hid hr.1
      clear hr
      go_enter Try.func33, Try.ntmps33
      go_wp2_with (first | (with_reducible refine wpList_cut rfl rfl Try.oneB rfl rfl rfl hR (by omega) (by omega) (by omega) ?_; intro a3 hr3 hs3) | (with_reducible refine wpList_bytesString rfl rfl Try.underlying22 Try.underlying5 Try.underlying9 rfl (RdB.of ((HB.out.drop _).take _) hr3) ?_))
      go_ret
      exact ⟨by rw [← HS.out]; rfl, rfl⟩
    · have hD : (i : Int) * 512 + 512 ≤ l.length := by omega
      have HS := Lib.hid (show (l.drop (i * 512)).take (i * 512 + 512 - i * 512) = sec l i by
        rw [Nat.mul_comm i 512, Nat.add_sub_cancel_left]; rfl)
      have hR := hr.2
      have HB := Lib.hid hr.1
      clear hr hC
      go_enter Try.func33, Try.ntmps33
      go_wp2_with (first | (with_reducible refine wpList_cut rfl rfl Try.oneB rfl rfl rfl hR (by omega) (by omega) (by omega) ?_; intro a3 hr3 hs3) | (with_reducible refine wpList_bytesString rfl rfl Try.underlying22 Try.underlying5 Try.underlying9 rfl (RdB.of ((HB.out.drop _).take _) hr3) ?_))
      go_ret
      exact ⟨by rw [← HS.out]; rfl, rfl⟩

theorem refcopy (base p : Nat) (b s : List Int) (G : Nat → Prop) (w : World) (h : RefS w base p b s G) :
    Calls Try.prog 24 #[.pointer (some ⟨p, 0, none⟩)] w fun e w' => ∃ p' G', e = .returned (.pointer (some ⟨p', 0, none⟩)) ∧ RefS w' base p' b s G' ∧ Below w.heap.size w w' ∧ ∀ j, G' j → G j ∨ w.heap.size ≤ j := by
  obtain ⟨a, n, c, a', n', c', z, h1, h2⟩ := h
  have e0 := h1.c0
  have e1 := h1.c1
  have e2 := h1.c2
  have H := Lib.hid h1
  have HG := Lib.hid h2
  clear h1 h2
  go_enter Try.func24, Try.ntmps24
  go_wp2_with fail
  go_region_held3 (fun w' : World => w'.cell? ⟨p, 0, none⟩ = some (.slice a n c) ∧ w'.cell? ⟨p, 1, none⟩ = some (.slice a' n' c') ∧ w'.cell? ⟨p, 2, none⟩ = some (.int .i64 z)) (first | exact ⟨e0, e1, e2⟩ | go_keep) (fail)
  have hbb := below_alloc w (.cells #[.slice a n c, .slice a' n' c', .int .i64 z] 47)
  have hB : Below w.heap.size w (w.alloc (.cells #[.slice a n c, .slice a' n' c', .int .i64 z] 47)).drew := hbb.trans ((below_drew _).mono hbb.size)
  have hh := heap_alloc_new w (.cells #[.slice a n c, .slice a' n' c', .int .i64 z] 47)
  have hlt := H.out.lt
  have hle := H.out.le
  have hn : ∀ k ∈ blk a ++ blk a', k < w.heap.size := fun k hk => (H.out.mem (List.mem_cons_of_mem _ hk)).2
  have hR : RefAt (w.alloc (.cells #[.slice a n c, .slice a' n' c', .int .i64 z] 47)).drew base w.heap.size a n c b a' n' c' s z :=
    ⟨by omega, lt_of_heap hh, cell_of_heap hh 0 _ rfl, cell_of_heap hh 1 _ rfl, cell_of_heap hh 2 _ rfl, free_of_heap hh _, free_of_heap hh _, H.out.x.mono hB, H.out.y.mono hB, fun hm => by have := hn _ (List.mem_append_left _ hm); omega, fun hm => by have := hn _ (List.mem_append_right _ hm); omega, H.out.lb, H.out.ls⟩
  have HR := Lib.hid hR
  clear hR hh hbb e0 e1 e2
  go_wp2_with fail
  go_ret
  exact ⟨w.heap.size, _, rfl, ⟨_, _, _, _, _, _, _, HR.out, fun j => Iff.rfl⟩, hB, fun j hj => by
    rcases List.mem_cons.1 hj with rfl | hj
    · exact .inr (Nat.le_refl _)
    · exact .inl ((HG.out j).2 (List.mem_cons_of_mem _ hj))⟩

set_option maxHeartbeats 1000000 in
theorem sameints_any (a1 : Option Addr) (n1 c1 : Nat) (a2 : Option Addr) (n2 c2 : Nat) (l : List Nat) (w : World) (h1 : Rd encN w a1 n1 c1 l) (h2 : Rd encN w a2 n2 c2 l) (hs : n1 ≤ 100000) :
    Calls Try.prog 26 #[.slice a1 n1 c1, .slice a2 n2 c2] w fun e w' => e = .returned (.bool true) ∧ Below w.heap.size w w' := by
  obtain rfl : l.length = n1 := h1.1
  obtain rfl : l.length = n2 := h2.1
  have hc1 := h1.2.1
  have hc2 := h2.2.1
  have H1 := Lib.hid h1
  have H2 := Lib.hid h2
  clear h1 h2
  go_enter Try.func26, Try.ntmps26
  go_wp2_with fail
  go_loopw [5] (fun i wr => ∃ (k : Nat), k ≤ l.length ∧ i = .int .i64 k ∧ Below w.heap.size w wr) (fun i _ => l.length - (intOf i).toNat)
  case atStart => exact ⟨0, Nat.zero_le _, rfl, Below.refl _ _⟩
  case round =>
    obtain ⟨k, hk, rfl, hB⟩ := hrel
    by_cases hlt : k < l.length
    · obtain ⟨b, off, rfl, hx⟩ := cellAt (H1.out.mono hB) k hlt
      obtain ⟨b', off', rfl, hy⟩ := cellAt (H2.out.mono hB) k hlt
      unfold encN at hx hy
      generalize l[k] = v at *
      have j0 : (0 : Int) ≤ (k : Int) := by omega
      have j1 : (k : Int) < (l.length : Int) := by omega
      go_wp2_with fail
      go_quiet (fail)
      go_wp2_with fail
      go_roundw
      case rel => exact ⟨k + 1, by omega, by go_num, bel_drewN hB nq⟩
      case measure => simp [intOf]; omega
    · obtain rfl : k = l.length := by omega
      go_wp2_with fail
      go_ret
      exact ⟨rfl, hB⟩
end Go.Proofs.Ytenikpbnggkmgaa
