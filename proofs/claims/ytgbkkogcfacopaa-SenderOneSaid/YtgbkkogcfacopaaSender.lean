/- What each call of package sender computes: the sender's block known whole, the message as a list of bytes. Conditions stand as premises. -/
import Derived.Test.YtgbkkogcfacopaaClone
import Derived.Deep.RegionHeld3
namespace Go.Proofs.Ytgbkkogcfacopaa
open Go.ChangeShapes Go.WideShapes Go.ChangeAt Go.RowKit
set_option linter.unusedVariables false

/-- A sender at block S: its seven fields; the message is not in its own block. -/
def Snd (w : World) (S : Nat) (f m : Int) (l : List Int) (busy : Bool) (due wait tries : Int) : Prop :=
  ∃ a n c, w.heap[S]? = some (.cells #[.int .i64 f, .int .i64 m, .slice a n c, .bool busy, .int .i64 due, .int .i64 wait, .int .i64 tries] 42 (0, 0)) ∧ RdB w a n c l ∧ (∀ x, a = some x → some x.block ≠ some S)

theorem Snd.mono {w w' : World} {S : Nat} {f m : Int} {l : List Int} {busy : Bool} {due wait tries : Int} (h : Snd w S f m l busy due wait tries) (hb : Below w.heap.size w w') : Snd w' S f m l busy due wait tries := by
  obtain ⟨a, n, c, h1, h2, h3⟩ := h
  exact ⟨a, n, c, by rw [hb.block S (lt_of_heap h1)]; exact h1, h2.mono hb, h3⟩
theorem Snd.lt {w : World} {S : Nat} {f m : Int} {l : List Int} {busy : Bool} {due wait tries : Int} (h : Snd w S f m l busy due wait tries) : S < w.heap.size := by
  obtain ⟨a, n, c, h1, h2, h3⟩ := h
  exact lt_of_heap h1

theorem snew_no (f m : Int) (h : f < 1 ∨ 1000 < m ∨ m < f) (w : World) :
    Calls Try.prog 15 #[.int .i64 f, .int .i64 m] w fun e w' => e = .returned (.tuple #[.pointer none, .int .i64 1]) ∧ w = w' := by
  by_cases h1 : f < 1
  · clear h
    go_enter Try.func15, Try.ntmps15
    go_wp2
    go_ret2
    exact ⟨rfl, rfl⟩
  · by_cases h2 : 1000 < m
    · clear h
      go_enter Try.func15, Try.ntmps15
      go_wp2
      go_ret2
      exact ⟨rfl, rfl⟩
    · have h3 : m < f := by omega
      clear h
      go_enter Try.func15, Try.ntmps15
      go_wp2
      go_ret2
      exact ⟨rfl, rfl⟩

theorem snew_yes (f m : Int) (h1 : 1 ≤ f) (h2 : m ≤ 1000) (h3 : f ≤ m) (w : World) :
    Calls Try.prog 15 #[.int .i64 f, .int .i64 m] w fun e w' => e = .returned (.tuple #[.pointer (some ⟨w.heap.size, 0, none⟩), .int .i64 0]) ∧ Snd w' w.heap.size f m [] false 0 0 0 ∧ Below w.heap.size w w' := by
  go_enter Try.func15, Try.ntmps15
  go_wp2
  go_ret2
  refine ⟨rfl, ⟨none, 0, 0, heap_alloc_new _ _, ⟨IsB.nil, rfl, Nat.le_refl _, Nat.zero_le _, fun _ => rfl, .inl rfl⟩, fun x hx => by cases hx⟩, (Below.refl _ _).alloc (Nat.le_refl _) _⟩

theorem busy_any (S : Nat) (f m : Int) (l : List Int) (busy : Bool) (due wait tries : Int) (w : World) (h : Snd w S f m l busy due wait tries) :
    Calls Try.prog 14 #[.pointer (some ⟨S, 0, none⟩)] w fun e w' => e = .returned (.bool busy) ∧ w = w' := by
  obtain ⟨a, n, c, h1, h2, h3⟩ := h
  have hc := cell_of_heap h1 3 _ rfl
  clear h1 h2 h3
  go_enter Try.func14, Try.ntmps14
  go_wp2
  go_ret
  exact ⟨rfl, rfl⟩

theorem tries_any (S : Nat) (f m : Int) (l : List Int) (busy : Bool) (due wait tries : Int) (w : World) (h : Snd w S f m l busy due wait tries) :
    Calls Try.prog 12 #[.pointer (some ⟨S, 0, none⟩)] w fun e w' => e = .returned (.int .i64 tries) ∧ w = w' := by
  obtain ⟨a, n, c, h1, h2, h3⟩ := h
  have hc := cell_of_heap h1 6 _ rfl
  clear h1 h2 h3
  go_enter Try.func12, Try.ntmps12
  go_wp2
  go_ret
  exact ⟨rfl, rfl⟩

theorem next_yes (S : Nat) (f m : Int) (l : List Int) (due wait tries : Int) (w : World) (h : Snd w S f m l true due wait tries) :
    Calls Try.prog 10 #[.pointer (some ⟨S, 0, none⟩)] w fun e w' => e = .returned (.tuple #[.int .i64 due, .bool true]) ∧ w = w' := by
  obtain ⟨a, n, c, h1, h2, h3⟩ := h
  have hc := cell_of_heap h1 3 _ rfl
  have hd := cell_of_heap h1 4 _ rfl
  clear h1 h2 h3
  go_enter Try.func10, Try.ntmps10
  go_wp2
  go_ret2
  exact ⟨rfl, rfl⟩

theorem next_no (S : Nat) (f m : Int) (l : List Int) (due wait tries : Int) (w : World) (h : Snd w S f m l false due wait tries) :
    Calls Try.prog 10 #[.pointer (some ⟨S, 0, none⟩)] w fun e w' => e = .returned (.tuple #[.int .i64 0, .bool false]) ∧ w = w' := by
  obtain ⟨a, n, c, h1, h2, h3⟩ := h
  have hc := cell_of_heap h1 3 _ rfl
  clear h1 h2 h3
  go_enter Try.func10, Try.ntmps10
  go_wp2
  go_ret2
  exact ⟨rfl, rfl⟩

theorem done_any (S : Nat) (f m : Int) (l : List Int) (busy : Bool) (due wait tries : Int) (w : World) (h : Snd w S f m l busy due wait tries) :
    Calls Try.prog 17 #[.pointer (some ⟨S, 0, none⟩)] w fun e w' => e = .returned (.bool busy) ∧ Snd w' S f m [] false due wait 0 ∧ w.grownBy w' (some S) := by
  obtain ⟨a, n, c, h1, h2, h3⟩ := h
  have hc := cell_of_heap h1 3 _ rfl
  have hc2 := cell_of_heap h1 2 _ rfl
  have hc6 := cell_of_heap h1 6 _ rfl
  have hf2 := free_of_heap h1 2
  have hf3 := free_of_heap h1 3
  have hf6 := free_of_heap h1 6
  have g1 := heap_setCell_same _ _ 2 _ _ (.slice none 0 0) h1
  have g2 := heap_setCell_same _ _ 3 _ _ (.bool false) g1
  have G3 := Lib.hid (heap_setCell_same _ _ 6 _ _ (.int .i64 0) g2)
  clear h1 h2 h3 g1 g2
  go_enter Try.func17, Try.ntmps17
  go_wp2
  go_ret
  refine ⟨rfl, ⟨none, 0, 0, G3.out, ⟨IsB.nil, rfl, Nat.le_refl _, Nat.zero_le _, fun _ => rfl, .inl rfl⟩, fun x hx => by cases hx⟩, grown_trans (grown_trans (grown_setCell _ _ _ _) (grown_setCell _ _ _ _)) (grown_setCell _ _ _ _)⟩

theorem send_busy (S : Nat) (f m : Int) (l : List Int) (due wait tries : Int) (a2 : Option Addr) (n2 c2 : Nat) (now : Int) (w : World) (h : Snd w S f m l true due wait tries) :
    Calls Try.prog 16 #[.pointer (some ⟨S, 0, none⟩), .slice a2 n2 c2, .int .i64 now] w fun e w' => e = .returned (.int .i64 17) ∧ w = w' := by
  obtain ⟨a, n, c, h1, h2, h3⟩ := h
  have hc := cell_of_heap h1 3 _ rfl
  clear h1 h2 h3
  go_enter Try.func16, Try.ntmps16
  go_wp2
  go_ret
  exact ⟨rfl, rfl⟩

theorem send_late (S : Nat) (f m : Int) (l : List Int) (due wait tries : Int) (a2 : Option Addr) (n2 c2 : Nat) (now : Int) (hn : now < 0 ∨ 1099511627776 < now) (w : World) (h : Snd w S f m l false due wait tries) :
    Calls Try.prog 16 #[.pointer (some ⟨S, 0, none⟩), .slice a2 n2 c2, .int .i64 now] w fun e w' => e = .returned (.int .i64 1) ∧ w = w' := by
  obtain ⟨a, n, c, h1, h2, h3⟩ := h
  have hc := cell_of_heap h1 3 _ rfl
  clear h1 h2 h3
  by_cases hn2 : now < 0
  · clear hn
    go_enter Try.func16, Try.ntmps16
    go_wp2
    go_ret
    exact ⟨rfl, rfl⟩
  · have hn3 : 1099511627776 < now := by omega
    clear hn
    go_enter Try.func16, Try.ntmps16
    go_wp2
    go_ret
    exact ⟨rfl, rfl⟩

set_option maxHeartbeats 2000000 in
theorem send_yes (S : Nat) (f m : Int) (l : List Int) (due wait tries : Int) (a2 : Option Addr) (n2 c2 : Nat) (l2 : List Int) (now : Int) (hn : 0 ≤ now) (hn2 : now ≤ 1099511627776) (w : World) (h : Snd w S f m l false due wait tries)
    (hr : RdB w a2 n2 c2 l2) (hlen : n2 ≤ 140737488351000) :
    Calls Try.prog 16 #[.pointer (some ⟨S, 0, none⟩), .slice a2 n2 c2, .int .i64 now] w fun e w' => e = .returned (.int .i64 0) ∧ Snd w' S f m l2 true now f 0 ∧ w.grownBy w' (some S) := by
  obtain ⟨a, n, c, h1, h2, h3⟩ := h
  have hc := cell_of_heap h1 3 _ rfl
  have hc0 := cell_of_heap (w := w.drew) h1 0 _ rfl
  have hlt := lt_of_heap h1
  have H1 := Lib.hid h1
  have hrd := hr.mono (Below.refl _ _).drew
  have Hl := Lib.hid hr.len
  clear h1 h2 h3
  go_enter Try.func16, Try.ntmps16
  go_wp2_with fail
  go_region_held3 (fun w' => w'.cell? ⟨S, 0, none⟩ = some (.int .i64 f)) (first | go_keep | (repeat (refine keep_set (by decide) ?_)); assumption) ((go_at_call 18; refine (clone_any _ _ _ l2 _ hrd (by omega)).mono ?_; rintro e w3 ⟨a3, c3, rfl, ho3, hb3⟩; have h3 := (hb3.block S hlt).trans H1.out; have k0 := cell_of_heap h3 0 _ rfl; have k2 := cell_of_heap h3 2 _ rfl; have k3 := cell_of_heap h3 3 _ rfl; have k4 := cell_of_heap h3 4 _ rfl; have k5 := cell_of_heap h3 5 _ rfl; have k6 := cell_of_heap h3 6 _ rfl; have q2 := free_of_heap h3 2; have q3 := free_of_heap h3 3; have q4 := free_of_heap h3 4; have q5 := free_of_heap h3 5; have q6 := free_of_heap h3 6; have H3 := Lib.hid h3; clear h3))
  go_wp2
  go_ret
  have g3 := heap_setCell_same _ _ 6 _ _ (.int .i64 0) (heap_setCell_same _ _ 5 _ _ (.int .i64 f) (heap_setCell_same _ _ 4 _ _ (.int .i64 now) (heap_setCell_same _ _ 3 _ _ (.bool true) (heap_setCell_same _ _ 2 _ _ (.slice a3 l2.length c3) H3.out))))
  have hg : w3.grownBy (((((w3.setCell ⟨S, 2, none⟩ (.slice a3 l2.length c3)).setCell ⟨S, 3, none⟩ (.bool true)).setCell ⟨S, 4, none⟩ (.int .i64 now)).setCell ⟨S, 5, none⟩ (.int .i64 f)).setCell ⟨S, 6, none⟩ (.int .i64 0)) (some S) := by
    repeat (first | exact grown_setCell _ _ _ _ | refine grown_trans ?_ (grown_setCell _ _ _ _))
  have hne : ∀ x, a3 = some x → some x.block ≠ some S := fun x hx => by
    have := ho3.2.ge x hx
    have hw : w.drew.heap.size = w.heap.size := rfl
    simp only [Option.some.injEq, ne_eq]; omega
  exact ⟨rfl, ⟨a3, _, c3, g3, ho3.rd.grown hg hne, hne⟩, grown_trans (grown_trans (grown_drew (grown_refl w _)) (grown_below _ hb3)) hg⟩

/-- What is told next: twice as long, at most so long. -/
def nextW (m wait : Int) : Int := if m < 2 * wait then m else 2 * wait

theorem nextW_lt {m wait : Int} (h : m < 2 * wait) : nextW m wait = m := if_pos h
theorem nextW_ge {m wait : Int} (h : 2 * wait ≤ m) : nextW m wait = 2 * wait := if_neg (by omega)

theorem due_no (S : Nat) (f m : Int) (l : List Int) (busy : Bool) (due wait tries now : Int) (hn : now ≤ 1099511627776) (hd : busy = false ∨ now < due) (w : World) (h : Snd w S f m l busy due wait tries) :
    Calls Try.prog 11 #[.pointer (some ⟨S, 0, none⟩), .int .i64 now] w fun e w' => e = .returned (.tuple #[.slice none 0 0, .bool false]) ∧ w = w' := by
  obtain ⟨a, n, c, h1, h2, h3⟩ := h
  have hc := cell_of_heap h1 3 _ rfl
  have hc4 := cell_of_heap h1 4 _ rfl
  clear h1 h2 h3
  cases busy
  · clear hd
    go_enter Try.func11, Try.ntmps11
    go_wp2
    go_ret2
    exact ⟨rfl, rfl⟩
  · have hd' : now < due := by simpa using hd
    clear hd
    go_enter Try.func11, Try.ntmps11
    go_wp2
    go_ret2
    exact ⟨rfl, rfl⟩

set_option maxHeartbeats 2000000 in
theorem due_yes (S : Nat) (f m : Int) (l : List Int) (due wait tries now : Int) (hn : now ≤ 1099511627776) (hn0 : 0 ≤ now) (hd : due ≤ now) (hw : 0 ≤ wait ∧ wait ≤ 1000) (ht : 0 ≤ tries ∧ tries ≤ 1000000) (hl : l.length ≤ 140737488351000) (w : World) (h : Snd w S f m l true due wait tries) :
    Calls Try.prog 11 #[.pointer (some ⟨S, 0, none⟩), .int .i64 now] w fun e w' => ∃ a' c', e = .returned (.tuple #[.slice a' l.length c', .bool true]) ∧ OwnB 5 w' w.heap.size a' l.length c' l ∧ Snd w' S f m l true (now + wait) (nextW m wait) (tries + 1) ∧ w.grownBy w' (some S) := by
  obtain ⟨a, n, c, h1, h2, h3⟩ := h
  have hc1 := cell_of_heap h1 1 _ rfl
  have hc2 := cell_of_heap h1 2 _ rfl
  have hc3 := cell_of_heap h1 3 _ rfl
  have hc4 := cell_of_heap h1 4 _ rfl
  have hc5 := cell_of_heap h1 5 _ rfl
  have hc6 := cell_of_heap h1 6 _ rfl
  have f4 := free_of_heap h1 4
  have f5 := free_of_heap h1 5
  have f6 := free_of_heap h1 6
  obtain rfl : l.length = n := h2.len
  have H1 := Lib.hid h1
  have H3 := Lib.hid h3
  have hlt := lt_of_heap h1
  clear h1 h3
  by_cases hm : m < 2 * wait
  all_goals
    go_enter Try.func11, Try.ntmps11
    go_wp2_with fail
    go_region
    go_wp2_with fail
    refine (clone_any _ _ _ l _ (h2.grown (r := some S) (by repeat (first | exact grown_setCell _ _ _ _ | exact grown_refl _ _ | refine grown_trans ?_ (grown_setCell _ _ _ _) | refine grown_drew ?_)) H3.out) (by omega)).mono ?_
    rintro e w5 ⟨a5, c5, rfl, ho5, hb5⟩
    go_wp2_with fail
    go_ret2
    obtain ⟨X, hX, hX2⟩ : ∃ X, nextW m wait = X ∧ X = X := ⟨_, rfl, rfl⟩
    have g4 := heap_setCell_same _ _ 5 _ _ (.int .i64 X) (heap_setCell_same _ _ 4 _ _ (.int .i64 (now + wait)) (heap_setCell_same _ _ 6 _ _ (.int .i64 (tries + 1)) H1.out))
    have hg : w.grownBy ((((w.setCell ⟨S, 6, none⟩ (.int .i64 (tries + 1))).setCell ⟨S, 4, none⟩ (.int .i64 (now + wait))).setCell ⟨S, 5, none⟩ (.int .i64 X)).drew) (some S) := by
      refine grown_drew ?_
      repeat (first | exact grown_setCell _ _ _ _ | refine grown_trans ?_ (grown_setCell _ _ _ _))
    first | (rw [nextW_lt hm] at hX; subst hX) | (rw [nextW_ge hm] at hX; subst hX)
    have hr4 := h2.grown hg H3.out
    refine ⟨a5, c5, rfl, ho5.base (Nat.le_of_eq (by simp)), ⟨a, _, c, ?_, hr4.mono hb5, H3.out⟩, grown_trans hg (grown_below _ hb5)⟩
    rw [hb5.block S (by simpa using hlt)]
    first | rw [nextW_lt hm] | rw [nextW_ge hm]
    exact g4

end Go.Proofs.Ytgbkkogcfacopaa
