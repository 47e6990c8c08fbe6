/- Two ways that are played alike: the walk of play. Conditions stand as premises. -/
import Derived.Test.YtnbikaiejeclnaaRefNet3
import Derived.Test.YtnbikaiejeclnaaNetRows
import Derived.Test.YtnbikaiejeclnaaNetDoubles
import Derived.Deep.RegionHeld3
namespace Go.Proofs.Ytnbikaiejeclnaa
open Go.ChangeShapes Go.WideShapes Go.ChangeAt Go.RowKit
set_option linter.unusedVariables false

/-- Two pairs of ways, apart, in a world that has turned nothing of the first one's. -/
structure Two (w0 w : World) (p q : Nat) (S T : St) (F G : Nat → Prop) : Prop where
  net1 : NetS w w0.heap.size p S F
  net2 : NetS w w0.heap.size q T G
  far : ∀ j, F j → ¬ G j
  bel : Below w0.heap.size w0 w

theorem Two.step1 {w0 w w' : World} {p q : Nat} {S T S' : St} {F G : Nat → Prop} (h : Two w0 w p q S T F G) (k : NetStep w w0.heap.size p S F S' w') : ∃ F', Two w0 w' p q S' T F' G ∧ Upd F w w' ∧ ∀ j, F' j → F j ∨ w.heap.size ≤ j := by
  obtain ⟨F', k1, k2, k3⟩ := k
  exact ⟨F', ⟨k1, h.net2.upd k2 (fun j hj hf => h.far j hf hj), fun j hj hg => (k3 j hj).elim (fun h' => h.far j h' hg) (fun h' => by have := (h.net2.mem hg).2; omega), h.bel.trans (k2.below h.bel.size (fun j hj => (h.net1.mem hj).1))⟩, k2, k3⟩
theorem Two.step2 {w0 w w' : World} {p q : Nat} {S T T' : St} {F G : Nat → Prop} (h : Two w0 w p q S T F G) (k : NetStep w w0.heap.size q T G T' w') : ∃ G', Two w0 w' p q S T' F G' ∧ Upd G w w' ∧ ∀ j, G' j → G j ∨ w.heap.size ≤ j := by
  obtain ⟨F', k1, k2, k3⟩ := k
  exact ⟨F', ⟨h.net1.upd k2 (fun j hj hf => h.far j hj hf), k1, fun j hj hg => (k3 j hg).elim (fun h' => h.far j hj h') (fun h' => by have := (h.net1.mem hj).2; omega), h.bel.trans (k2.below h.bel.size (fun j hj => (h.net2.mem hj).1))⟩, k2, k3⟩
theorem Two.ahead {w0 w w' : World} {p q : Nat} {S T : St} {F G : Nat → Prop} (h : Two w0 w p q S T F G) (hb : Below w.heap.size w w') : Two w0 w' p q S T F G :=
  ⟨h.net1.upd (Upd.ofBelow (F := fun _ => False) hb) (fun _ _ h => h), h.net2.upd (Upd.ofBelow (F := fun _ => False) hb) (fun _ _ h => h), h.far, h.bel.trans (hb.mono h.bel.size)⟩

/-- Few and small messages. -/
def Small (S : St) : Prop := ∀ k : Int, (rowS S k).length ≤ 32 ∧ ∀ l ∈ rowS S k, l.length ≤ 40
theorem Small.set {S : St} (h : Small S) {k : Int} {ls : List (List Int)} (h1 : ls.length ≤ 32) (h2 : ∀ l ∈ ls, l.length ≤ 40) : Small (setS S k ls) := by
  intro j
  have hj := h j
  by_cases e : (j.toNat = 0 ↔ k.toNat = 0)
  · have : rowS (setS S k ls) j = ls := by
      unfold rowS setS rowOf setRow'
      by_cases hk : k.toNat = 0
      · rw [if_pos (e.2 hk), if_pos hk]
      · rw [if_neg (fun h' => hk (e.1 h')), if_neg hk]
    rw [this]; exact ⟨h1, h2⟩
  · have : rowS (setS S k ls) j = rowS S j := by
      unfold rowS setS rowOf setRow'
      by_cases hk : k.toNat = 0
      · have hj0 : ¬ j.toNat = 0 := fun h' => e ⟨fun _ => hk, fun _ => h'⟩
        rw [if_neg hj0, if_pos hk, if_neg hj0]
      · have hj0 : j.toNat = 0 := Decidable.byContradiction fun h' => e ⟨fun a => absurd a h', fun a => absurd a hk⟩
        rw [if_pos hj0, if_neg hk, if_pos hj0]
    rw [this]; exact hj
theorem Small.send {S : St} (h : Small S) (k : Int) {l : List Int} (hl : l.length ≤ 40) : Small (sendS S k l) := by
  unfold sendS
  split
  · rename_i hc
    refine h.set ?_ ?_
    · unfold sendC at hc
      split at hc
      · split at hc
        · cases hc
        · rw [List.length_append]; simp; omega
      · cases hc
    · intro m hm
      rcases List.mem_append.1 hm with hm | hm
      · exact (h k).2 m hm
      · rw [List.mem_singleton.1 hm]; exact hl
  · exact h
theorem Small.take {S : St} (h : Small S) (k i : Int) : Small (takeS S k i) := by
  unfold takeS
  split
  · exact h.set (Nat.le_trans (List.length_eraseIdx_le _ _) (h k).1) (fun m hm => (h k).2 m (List.mem_of_mem_eraseIdx hm))
  · exact h
theorem Small.get {S : St} (h : Small S) (k i : Int) : (getL S k i).length ≤ 40 := by
  unfold getL
  by_cases hi : i.toNat < (rowS S k).length
  · rw [List.getElem?_eq_getElem hi]; exact (h k).2 _ (List.getElem_mem hi)
  · rw [List.getElem?_eq_none (by omega)]; simp
theorem Small.dbl {S : St} (h : Small S) (k i : Int) : Small (dblS S k i) := by
  unfold dblS
  split
  · exact h.send k (h.get k i)
  · exact h
theorem Small.spo {S : St} (h : Small S) (k i a x : Int) : Small (spoS S k i a x) := by
  unfold spoS
  split
  · refine h.set (by simpa using (h k).1) (fun m hm => ?_)
    rcases List.mem_or_eq_of_mem_set hm with hm | hm
    · exact (h k).2 m hm
    · rw [hm]; unfold spoilL; simpa using h.get k i
  · exact h
theorem Small.big {S : St} (h : Small S) (k : Int) : ∀ l ∈ rowS S k, l.length ≤ 140737488351232 := fun l hl => Nat.le_trans ((h k).2 l hl) (by decide)

/-- What play leaves. -/
def PlayP (w0 : World) (p q : Nat) (F0 G0 : Nat → Prop) (w : World) (e : Ending) (w' : World) : Prop := e = .returned (.bool true) ∧ ∃ S F G, Two w0 w' p q S S F G ∧ Small S ∧ Upd (fun j => F0 j ∨ G0 j) w w'

/-- The box of a thing to be done, and what lies in it. -/
structure Box (w : World) (D : Nat) (k y i t b : Int) (a : Option Addr) (n c : Nat) : Prop where
  lt : D < w.heap.size
  d0 : w.cell? ⟨D, 0, none⟩ = some (.int .i64 k)
  d1 : w.cell? ⟨D, 1, none⟩ = some (.int .i64 y)
  d2 : w.cell? ⟨D, 2, none⟩ = some (.int .i64 i)
  d3 : w.cell? ⟨D, 3, none⟩ = some (.int .i64 t)
  d4 : w.cell? ⟨D, 4, none⟩ = some (.int .u8 b)
  d5 : w.cell? ⟨D, 5, none⟩ = some (.slice a n c)
theorem Box.upd {w w' : World} {D : Nat} {k y i t b : Int} {a : Option Addr} {n c : Nat} {F : Nat → Prop} (h : Box w D k y i t b a n c) (hu : Upd F w w') (hn : ¬ F D) : Box w' D k y i t b a n c :=
  ⟨Nat.lt_of_lt_of_le h.lt hu.size, ucell hu hn h.d0, ucell hu hn h.d1, ucell hu hn h.d2, ucell hu hn h.d3, ucell hu hn h.d4, ucell hu hn h.d5⟩
theorem Box.new (w : World) (T : TypeId) (k y i t b : Int) (a : Option Addr) (n c : Nat) : Box (w.alloc (.cells #[.int .i64 k, .int .i64 y, .int .i64 i, .int .i64 t, .int .u8 b, .slice a n c] T)) w.heap.size k y i t b a n c := by
  have h := heap_alloc_new w (.cells #[.int .i64 k, .int .i64 y, .int .i64 i, .int .i64 t, .int .u8 b, .slice a n c] T)
  exact ⟨by simp, cell_of_heap h 0 _ rfl, cell_of_heap h 1 _ rfl, cell_of_heap h 2 _ rfl, cell_of_heap h 3 _ rfl, cell_of_heap h 4 _ rfl, cell_of_heap h 5 _ rfl⟩

set_option maxRecDepth 100000 in
set_option maxHeartbeats 4000000 in
theorem play_send (w0 : World) (p q : Nat) (S : St) (F G : Nat → Prop) (k y i t b r : Int) (a : Option Addr) (n c : Nat) (l : List Int) (w : World) (hT : Two w0 w p q S S F G) (hS : Small S) (hr : RdB w0 a n c l) (hlen : n ≤ 40)
    (hr0 : r = 0 ∨ r = 1 ∨ r = 2) (hk : ∀ w, Calls Try.prog 9 #[.int .i64 k, .int .i64 7] w fun e w' => e = .returned (.int .i64 r) ∧ w = w') :
    Calls Try.prog 22 #[.pointer (some ⟨p, 0, none⟩), .pointer (some ⟨q, 0, none⟩), .agg #[.int .i64 k, .int .i64 y, .int .i64 i, .int .i64 t, .int .u8 b, .slice a n c]] w (PlayP w0 p q F G w) := by
  have HK := Lib.hid hk
  have HS := Lib.hid hS
  have HR := Lib.hid hr
  have hll := Lib.hid hr.len
  have hX := Box.new w 46 k y i t b a n c
  have hW := below_alloc w (.cells #[.int .i64 k, .int .i64 y, .int .i64 i, .int .i64 t, .int .u8 b, .slice a n c] 46)
  have hT1 := hT.ahead hW
  have hU := Upd.ofBelow (F := fun j => F j ∨ G j) hW
  have hDF : ¬ F w.heap.size := fun h => by have := (hT.net1.mem h).2; omega
  have hDG : ¬ G w.heap.size := fun h => by have := (hT.net2.mem h).2; omega
  clear hk hS hr hT hW
  rcases hr0 with rfl | rfl | rfl
  · go_enter Try.func22, Try.ntmps22
    go_wp2_with fail
    refine (HK.out _).mono ?_
    rintro e w1 ⟨rfl, rfl⟩
    go_wp2_with fail
    generalize hD : w.heap.size = D at *
    generalize w.alloc (.cells #[.int .i64 k, .int .i64 y, .int .i64 i, .int .i64 t, .int .u8 b, .slice a n c] 46) = w1 at *
    have hT := hT1.ahead (below_drew w1)
    have hU := hU.drew
    have hX := hX.upd (Upd.ofBelow (F := fun _ => False) (below_drew w1)) (fun h => h)
    have hl40 : l.length ≤ 40 := by rw [hll.out]; exact hlen
    have hn48 : n ≤ 140737488351232 := by omega
    have e1 := hX.d1
    have e5 := hX.d5
    clear hT1
    go_region_held3 (fun w' => w'.cell? ⟨D, 1, none⟩ = some (.int .i64 y) ∧ w'.cell? ⟨D, 5, none⟩ = some (.slice a n c)) (first | assumption | (refine ⟨?_, ?_⟩ <;> assumption) | go_keep) ((first | (go_at_call 16; refine (s_send w0.heap.size p _ _ y a n c l _ hT.net1 (HR.out.mono hT.bel) hn48).mono ?_; rintro e w2 ⟨rfl, hst⟩; obtain ⟨F2, hT, hu, hF2⟩ := hT.step1 hst; have hU := hU.trans hu (fun _ _ h => Or.inl h); have hX := hX.upd hu hDF; have e1 := hX.d1; have e5 := hX.d5; clear hst hu) | (go_at_call 28; refine (r_send w0.heap.size q _ _ y a n c l _ hT.net2 (HR.out.mono hT.bel) hn48).mono ?_; rintro e w2 ⟨rfl, hst⟩; obtain ⟨G2, hT, hu, hG2⟩ := hT.step2 hst; have hU := hU.trans hu (fun _ _ h => Or.inr h); have hX := hX.upd hu hDG; have e1 := hX.d1; have e5 := hX.d5; clear hst hu)))
    all_goals
      go_wp2
      go_ret
      exact ⟨ret_bool (by simp), _, _, _, hT, HS.out.send y hl40, hU⟩
  · go_enter Try.func22, Try.ntmps22
    go_wp2_with fail
    refine (HK.out _).mono ?_
    rintro e w1 ⟨rfl, rfl⟩
    go_wp2_with fail
    generalize hD : w.heap.size = D at *
    generalize w.alloc (.cells #[.int .i64 k, .int .i64 y, .int .i64 i, .int .i64 t, .int .u8 b, .slice a n c] 46) = w1 at *
    have hT := hT1.ahead (below_drew w1)
    have hU := hU.drew
    have hX := hX.upd (Upd.ofBelow (F := fun _ => False) (below_drew w1)) (fun h => h)
    have hl40 : l.length ≤ 40 := by rw [hll.out]; exact hlen
    have hn48 : n ≤ 140737488351232 := by omega
    have e1 := hX.d1
    have e5 := hX.d5
    clear hT1
    go_region_held3 (fun w' => w'.cell? ⟨D, 1, none⟩ = some (.int .i64 y) ∧ w'.cell? ⟨D, 5, none⟩ = some (.slice a n c)) (first | assumption | (refine ⟨?_, ?_⟩ <;> assumption) | go_keep) ((first | (go_at_call 16; refine (s_send w0.heap.size p _ _ y a n c l _ hT.net1 (HR.out.mono hT.bel) hn48).mono ?_; rintro e w2 ⟨rfl, hst⟩; obtain ⟨F2, hT, hu, hF2⟩ := hT.step1 hst; have hU := hU.trans hu (fun _ _ h => Or.inl h); have hX := hX.upd hu hDF; have e1 := hX.d1; have e5 := hX.d5; clear hst hu) | (go_at_call 28; refine (r_send w0.heap.size q _ _ y a n c l _ hT.net2 (HR.out.mono hT.bel) hn48).mono ?_; rintro e w2 ⟨rfl, hst⟩; obtain ⟨G2, hT, hu, hG2⟩ := hT.step2 hst; have hU := hU.trans hu (fun _ _ h => Or.inr h); have hX := hX.upd hu hDG; have e1 := hX.d1; have e5 := hX.d5; clear hst hu)))
    all_goals
      go_wp2
      go_ret
      exact ⟨ret_bool (by simp), _, _, _, hT, HS.out.send y hl40, hU⟩
  · go_enter Try.func22, Try.ntmps22
    go_wp2_with fail
    refine (HK.out _).mono ?_
    rintro e w1 ⟨rfl, rfl⟩
    go_wp2_with fail
    generalize hD : w.heap.size = D at *
    generalize w.alloc (.cells #[.int .i64 k, .int .i64 y, .int .i64 i, .int .i64 t, .int .u8 b, .slice a n c] 46) = w1 at *
    have hT := hT1.ahead (below_drew w1)
    have hU := hU.drew
    have hX := hX.upd (Upd.ofBelow (F := fun _ => False) (below_drew w1)) (fun h => h)
    have hl40 : l.length ≤ 40 := by rw [hll.out]; exact hlen
    have hn48 : n ≤ 140737488351232 := by omega
    have e1 := hX.d1
    have e5 := hX.d5
    clear hT1
    go_region_held3 (fun w' => w'.cell? ⟨D, 1, none⟩ = some (.int .i64 y) ∧ w'.cell? ⟨D, 5, none⟩ = some (.slice a n c)) (first | assumption | (refine ⟨?_, ?_⟩ <;> assumption) | go_keep) ((first | (go_at_call 16; refine (s_send w0.heap.size p _ _ y a n c l _ hT.net1 (HR.out.mono hT.bel) hn48).mono ?_; rintro e w2 ⟨rfl, hst⟩; obtain ⟨F2, hT, hu, hF2⟩ := hT.step1 hst; have hU := hU.trans hu (fun _ _ h => Or.inl h); have hX := hX.upd hu hDF; have e1 := hX.d1; have e5 := hX.d5; clear hst hu) | (go_at_call 28; refine (r_send w0.heap.size q _ _ y a n c l _ hT.net2 (HR.out.mono hT.bel) hn48).mono ?_; rintro e w2 ⟨rfl, hst⟩; obtain ⟨G2, hT, hu, hG2⟩ := hT.step2 hst; have hU := hU.trans hu (fun _ _ h => Or.inr h); have hX := hX.upd hu hDG; have e1 := hX.d1; have e5 := hX.d5; clear hst hu)))
    all_goals
      go_wp2
      go_ret
      exact ⟨ret_bool (by simp), _, _, _, hT, HS.out.send y hl40, hU⟩

set_option maxRecDepth 100000 in
set_option maxHeartbeats 4000000 in
theorem play_take (w0 : World) (p q : Nat) (S : St) (F G : Nat → Prop) (k y i t b : Int) (a : Option Addr) (n c : Nat) (w : World) (hT : Two w0 w p q S S F G) (hS : Small S)
    (hk : ∀ w, Calls Try.prog 9 #[.int .i64 k, .int .i64 7] w fun e w' => e = .returned (.int .i64 3) ∧ w = w') :
    Calls Try.prog 22 #[.pointer (some ⟨p, 0, none⟩), .pointer (some ⟨q, 0, none⟩), .agg #[.int .i64 k, .int .i64 y, .int .i64 i, .int .i64 t, .int .u8 b, .slice a n c]] w (PlayP w0 p q F G w) := by
  have HK := Lib.hid hk
  have HS := Lib.hid hS
  have hX := Box.new w 46 k y i t b a n c
  have hW := below_alloc w (.cells #[.int .i64 k, .int .i64 y, .int .i64 i, .int .i64 t, .int .u8 b, .slice a n c] 46)
  have hT1 := hT.ahead hW
  have hU := Upd.ofBelow (F := fun j => F j ∨ G j) hW
  have hDF : ¬ F w.heap.size := fun h => by have := (hT.net1.mem h).2; omega
  have hDG : ¬ G w.heap.size := fun h => by have := (hT.net2.mem h).2; omega
  clear hk hS hT hW
  go_enter Try.func22, Try.ntmps22
  go_wp2_with fail
  refine (HK.out _).mono ?_
  rintro e w1 ⟨rfl, rfl⟩
  generalize hD : w.heap.size = D at *
  generalize w.alloc (.cells #[.int .i64 k, .int .i64 y, .int .i64 i, .int .i64 t, .int .u8 b, .slice a n c] 46) = w1 at *
  have e1 := hX.d1
  have e2 := hX.d2
  have e3 := hX.d3
  have e4 := hX.d4
  go_wp2_with fail
  refine (s_take w0.heap.size p _ _ y i _ hT1.net1).mono ?_
  rintro e w2 ⟨a2, n2, c2, rfl, hr2, hf2, hst⟩
  obtain ⟨F2, hT2, hu2, hF2⟩ := hT1.step1 hst
  have hX2 := hX.upd hu2 hDF
  have e1 := hX2.d1
  have e2 := hX2.d2
  clear hst
  go_wp2_with fail
  refine (r_take w0.heap.size q _ _ y i _ hT2.net2 (Nat.le_trans (HS.out y).1 (by decide))).mono ?_
  rintro e w3 ⟨a3, n3, c3, rfl, hr3, hf3, hst⟩
  obtain ⟨G3, hT3, hu3, hG3⟩ := hT2.step2 hst
  have hr2' := hr2.upd hu3 (fun x hx hg => hT1.far _ (hf2 x hx) hg)
  clear hst hr2
  go_wp2_with fail
  refine (same_any _ _ _ _ _ _ _ _ _ hr2' hr3).mono ?_
  rintro e w4 ⟨rfl, rfl⟩
  rw [decide_eq_true rfl]
  go_wp2_with fail
  go_ret
  exact ⟨rfl, _, _, _, hT3, HS.out.take y i, (hU.trans hu2 (fun _ _ h => Or.inl h)).trans hu3 (fun _ _ h => Or.inr h)⟩

set_option maxRecDepth 100000 in
set_option maxHeartbeats 4000000 in
theorem play_drop (w0 : World) (p q : Nat) (S : St) (F G : Nat → Prop) (k y i t b : Int) (a : Option Addr) (n c : Nat) (w : World) (hT : Two w0 w p q S S F G) (hS : Small S)
    (hk : ∀ w, Calls Try.prog 9 #[.int .i64 k, .int .i64 7] w fun e w' => e = .returned (.int .i64 4) ∧ w = w') :
    Calls Try.prog 22 #[.pointer (some ⟨p, 0, none⟩), .pointer (some ⟨q, 0, none⟩), .agg #[.int .i64 k, .int .i64 y, .int .i64 i, .int .i64 t, .int .u8 b, .slice a n c]] w (PlayP w0 p q F G w) := by
  have HK := Lib.hid hk
  have HS := Lib.hid hS
  have hX := Box.new w 46 k y i t b a n c
  have hW := below_alloc w (.cells #[.int .i64 k, .int .i64 y, .int .i64 i, .int .i64 t, .int .u8 b, .slice a n c] 46)
  have hT1 := hT.ahead hW
  have hU := Upd.ofBelow (F := fun j => F j ∨ G j) hW
  have hDF : ¬ F w.heap.size := fun h => by have := (hT.net1.mem h).2; omega
  have hDG : ¬ G w.heap.size := fun h => by have := (hT.net2.mem h).2; omega
  clear hk hS hT hW
  go_enter Try.func22, Try.ntmps22
  go_wp2_with fail
  refine (HK.out _).mono ?_
  rintro e w1 ⟨rfl, rfl⟩
  generalize hD : w.heap.size = D at *
  generalize w.alloc (.cells #[.int .i64 k, .int .i64 y, .int .i64 i, .int .i64 t, .int .u8 b, .slice a n c] 46) = w1 at *
  have e1 := hX.d1
  have e2 := hX.d2
  have e3 := hX.d3
  have e4 := hX.d4
  go_wp2_with fail
  refine (r_take w0.heap.size q _ _ y i _ hT1.net2 (Nat.le_trans (HS.out y).1 (by decide))).mono ?_
  rintro e w2 ⟨a2, n2, c2, rfl, hr2, hf2, hst⟩
  obtain ⟨G2, hT2, hu2, hG2⟩ := hT1.step2 hst
  have hX2 := hX.upd hu2 hDG
  have e1 := hX2.d1
  have e2 := hX2.d2
  clear hst hr2 hf2
  go_wp2_with fail
  refine (s_drop w0.heap.size p _ _ y i _ hT2.net1).mono ?_
  rintro e w3 ⟨rfl, hst⟩
  obtain ⟨F3, hT3, hu3, hF3⟩ := hT2.step1 hst
  clear hst
  go_wp2_with fail
  go_ret
  exact ⟨ret_bool (by simp), _, _, _, hT3, HS.out.take y i, (hU.trans hu2 (fun _ _ h => Or.inr h)).trans hu3 (fun _ _ h => Or.inl h)⟩

set_option maxRecDepth 100000 in
set_option maxHeartbeats 4000000 in
theorem play_double (w0 : World) (p q : Nat) (S : St) (F G : Nat → Prop) (k y i t b : Int) (a : Option Addr) (n c : Nat) (w : World) (hT : Two w0 w p q S S F G) (hS : Small S)
    (hk : ∀ w, Calls Try.prog 9 #[.int .i64 k, .int .i64 7] w fun e w' => e = .returned (.int .i64 5) ∧ w = w') :
    Calls Try.prog 22 #[.pointer (some ⟨p, 0, none⟩), .pointer (some ⟨q, 0, none⟩), .agg #[.int .i64 k, .int .i64 y, .int .i64 i, .int .i64 t, .int .u8 b, .slice a n c]] w (PlayP w0 p q F G w) := by
  have HK := Lib.hid hk
  have HS := Lib.hid hS
  have hX := Box.new w 46 k y i t b a n c
  have hW := below_alloc w (.cells #[.int .i64 k, .int .i64 y, .int .i64 i, .int .i64 t, .int .u8 b, .slice a n c] 46)
  have hT1 := hT.ahead hW
  have hU := Upd.ofBelow (F := fun j => F j ∨ G j) hW
  have hDF : ¬ F w.heap.size := fun h => by have := (hT.net1.mem h).2; omega
  have hDG : ¬ G w.heap.size := fun h => by have := (hT.net2.mem h).2; omega
  clear hk hS hT hW
  go_enter Try.func22, Try.ntmps22
  go_wp2_with fail
  refine (HK.out _).mono ?_
  rintro e w1 ⟨rfl, rfl⟩
  generalize hD : w.heap.size = D at *
  generalize w.alloc (.cells #[.int .i64 k, .int .i64 y, .int .i64 i, .int .i64 t, .int .u8 b, .slice a n c] 46) = w1 at *
  have e1 := hX.d1
  have e2 := hX.d2
  have e3 := hX.d3
  have e4 := hX.d4
  go_wp2_with fail
  have hT := hT1.ahead (below_drew w1)
  have hU := hU.drew
  have hX := hX.upd (Upd.ofBelow (F := fun _ => False) (below_drew w1)) (fun h => h)
  have HB := Lib.hid (HS.out.big y)
  clear hT1
  go_region_held3 (fun w' => w'.cell? ⟨D, 1, none⟩ = some (.int .i64 y) ∧ w'.cell? ⟨D, 2, none⟩ = some (.int .i64 i)) (first | assumption | (refine ⟨?_, ?_⟩ <;> assumption) | go_keep) ((first | (go_at_call 18; refine (s_double w0.heap.size p _ _ y i _ hT.net1 HB.out).mono ?_; rintro e w2 ⟨rfl, hst⟩; obtain ⟨F2, hT, hu, hF2⟩ := hT.step1 hst; have hU := hU.trans hu (fun _ _ h => Or.inl h); have hX := hX.upd hu hDF; have e1 := hX.d1; have e2 := hX.d2; clear hst hu) | (go_at_call 29; refine (r_double w0.heap.size q _ _ y i _ hT.net2 HB.out).mono ?_; rintro e w2 ⟨rfl, hst⟩; obtain ⟨G2, hT, hu, hG2⟩ := hT.step2 hst; have hU := hU.trans hu (fun _ _ h => Or.inr h); have hX := hX.upd hu hDG; have e1 := hX.d1; have e2 := hX.d2; clear hst hu)))
  all_goals
    go_wp2
    go_ret
    exact ⟨ret_bool (by simp), _, _, _, hT, HS.out.dbl y i, hU⟩

set_option maxRecDepth 100000 in
set_option maxHeartbeats 4000000 in
theorem play_spoil (w0 : World) (p q : Nat) (S : St) (F G : Nat → Prop) (k y i t b : Int) (a : Option Addr) (n c : Nat) (w : World) (hT : Two w0 w p q S S F G) (hS : Small S)
    (hk : ∀ w, Calls Try.prog 9 #[.int .i64 k, .int .i64 7] w fun e w' => e = .returned (.int .i64 6) ∧ w = w') :
    Calls Try.prog 22 #[.pointer (some ⟨p, 0, none⟩), .pointer (some ⟨q, 0, none⟩), .agg #[.int .i64 k, .int .i64 y, .int .i64 i, .int .i64 t, .int .u8 b, .slice a n c]] w (PlayP w0 p q F G w) := by
  have HK := Lib.hid hk
  have HS := Lib.hid hS
  have hX := Box.new w 46 k y i t b a n c
  have hW := below_alloc w (.cells #[.int .i64 k, .int .i64 y, .int .i64 i, .int .i64 t, .int .u8 b, .slice a n c] 46)
  have hT1 := hT.ahead hW
  have hU := Upd.ofBelow (F := fun j => F j ∨ G j) hW
  have hDF : ¬ F w.heap.size := fun h => by have := (hT.net1.mem h).2; omega
  have hDG : ¬ G w.heap.size := fun h => by have := (hT.net2.mem h).2; omega
  clear hk hS hT hW
  go_enter Try.func22, Try.ntmps22
  go_wp2_with fail
  refine (HK.out _).mono ?_
  rintro e w1 ⟨rfl, rfl⟩
  generalize hD : w.heap.size = D at *
  generalize w.alloc (.cells #[.int .i64 k, .int .i64 y, .int .i64 i, .int .i64 t, .int .u8 b, .slice a n c] 46) = w1 at *
  have e1 := hX.d1
  have e2 := hX.d2
  have e3 := hX.d3
  have e4 := hX.d4
  go_wp2_with fail
  have hT := hT1.ahead (below_drew w1)
  have hU := hU.drew
  have hX := hX.upd (Upd.ofBelow (F := fun _ => False) (below_drew w1)) (fun h => h)
  have HB := Lib.hid (HS.out.big y)
  clear hT1
  go_region_held3 (fun w' => w'.cell? ⟨D, 1, none⟩ = some (.int .i64 y) ∧ w'.cell? ⟨D, 2, none⟩ = some (.int .i64 i) ∧ w'.cell? ⟨D, 3, none⟩ = some (.int .i64 t) ∧ w'.cell? ⟨D, 4, none⟩ = some (.int .u8 b)) (first | assumption | (refine ⟨?_, ?_, ?_, ?_⟩ <;> assumption) | go_keep) ((first | (go_at_call 19; refine (s_spoil w0.heap.size p _ _ y i t b _ hT.net1).mono ?_; rintro e w2 ⟨rfl, hst⟩; obtain ⟨F2, hT, hu, hF2⟩ := hT.step1 hst; have hU := hU.trans hu (fun _ _ h => Or.inl h); have hX := hX.upd hu hDF; have e1 := hX.d1; have e2 := hX.d2; have e3 := hX.d3; have e4 := hX.d4; clear hst hu) | (go_at_call 30; refine (r_spoil w0.heap.size q _ _ y i t b _ hT.net2 HB.out).mono ?_; rintro e w2 ⟨rfl, hst⟩; obtain ⟨G2, hT, hu, hG2⟩ := hT.step2 hst; have hU := hU.trans hu (fun _ _ h => Or.inr h); have hX := hX.upd hu hDG; have e1 := hX.d1; have e2 := hX.d2; have e3 := hX.d3; have e4 := hX.d4; clear hst hu)))
  all_goals
    go_wp2
    go_ret
    exact ⟨ret_bool (by simp), _, _, _, hT, HS.out.spo y i t b, hU⟩

/-- play, whatever is to be done. -/
theorem play_any (w0 : World) (p q : Nat) (S : St) (F G : Nat → Prop) (k y i t b : Int) (a : Option Addr) (n c : Nat) (l : List Int) (w : World) (hT : Two w0 w p q S S F G) (hS : Small S) (hr : RdB w0 a n c l) (hlen : n ≤ 40) :
    Calls Try.prog 22 #[.pointer (some ⟨p, 0, none⟩), .pointer (some ⟨q, 0, none⟩), .agg #[.int .i64 k, .int .i64 y, .int .i64 i, .int .i64 t, .int .u8 b, .slice a n c]] w (PlayP w0 p q F G w) := by
  obtain ⟨r, hr1, hr2, hr3⟩ := mod_int k 7 (by omega)
  have hk := fun w => number_int k 7 r hr1 (by omega) (by omega) w
  rcases (by omega : (r = 0 ∨ r = 1 ∨ r = 2) ∨ r = 3 ∨ r = 4 ∨ r = 5 ∨ r = 6) with h | rfl | rfl | rfl | rfl
  · exact play_send w0 p q S F G k y i t b r a n c l w hT hS hr hlen h hk
  · exact play_take w0 p q S F G k y i t b a n c w hT hS hk
  · exact play_drop w0 p q S F G k y i t b a n c w hT hS hk
  · exact play_double w0 p q S F G k y i t b a n c w hT hS hk
  · exact play_spoil w0 p q S F G k y i t b a n c w hT hS hk
end Go.Proofs.Ytnbikaiejeclnaa
