/- The document's file behind a pointer; what Write of it computes. Conditions stand as premises. -/
import Derived.Test.YtenikpbnggkmgaaSectC
import Derived.Test.YtenikpbnggkmgaaZerosAt
namespace Go.Proofs.Ytenikpbnggkmgaa
open Go.ChangeShapes Go.WideShapes Go.ChangeAt Go.RowKit
set_option linter.unusedVariables false

/-- The document's file: its two slices (they may be one), its number. -/
structure RefAt (w : World) (base p : Nat) (a : Option Addr) (n c : Nat) (b : List Int) (a' : Option Addr) (n' c' : Nat) (s : List Int) (z : Int) : Prop where
  le : base ≤ p
  lt : p < w.heap.size
  c0 : w.cell? ⟨p, 0, none⟩ = some (.slice a n c)
  c1 : w.cell? ⟨p, 1, none⟩ = some (.slice a' n' c')
  c2 : w.cell? ⟨p, 2, none⟩ = some (.int .i64 z)
  f0 : w.frozen? ⟨p, 0, none⟩ = false
  f1 : w.frozen? ⟨p, 1, none⟩ = false
  x : OwnB 5 w base a n c b
  y : OwnB 5 w base a' n' c' s
  na : p ∉ blk a
  nb : p ∉ blk a'
  lb : b.length ≤ 32768
  ls : s.length ≤ 32768

def RefS (w : World) (base p : Nat) (b s : List Int) (G : Nat → Prop) : Prop :=
  ∃ a n c a' n' c' z, RefAt w base p a n c b a' n' c' s z ∧ ∀ j, G j ↔ j ∈ p :: (blk a ++ blk a')

theorem RefAt.mem {w : World} {base p : Nat} {a : Option Addr} {n c : Nat} {b : List Int} {a' : Option Addr} {n' c' : Nat} {s : List Int} {z : Int} (h : RefAt w base p a n c b a' n' c' s z) {j : Nat} (hj : j ∈ p :: (blk a ++ blk a')) : base ≤ j ∧ j < w.heap.size := by
  rcases List.mem_cons.1 hj with rfl | hj
  · exact ⟨h.le, h.lt⟩
  · rcases List.mem_append.1 hj with hj | hj
    · obtain ⟨x, hx, rfl⟩ := mem_blk.1 hj
      exact h.x.2.lt x hx
    · obtain ⟨x, hx, rfl⟩ := mem_blk.1 hj
      exact h.y.2.lt x hx
theorem RefAt.upd {w w' : World} {base p : Nat} {a : Option Addr} {n c : Nat} {b : List Int} {a' : Option Addr} {n' c' : Nat} {s : List Int} {z : Int} {F : Nat → Prop} (h : RefAt w base p a n c b a' n' c' s z) (hu : Upd F w w') (hf : ∀ j ∈ p :: (blk a ++ blk a'), ¬ F j) : RefAt w' base p a n c b a' n' c' s z :=
  ⟨h.le, Nat.lt_of_lt_of_le h.lt hu.size, hu.cell h.c0 (hf _ List.mem_cons_self), hu.cell h.c1 (hf _ List.mem_cons_self), hu.cell h.c2 (hf _ List.mem_cons_self),
    (hu.frozen h.lt (hf _ List.mem_cons_self)).trans h.f0, (hu.frozen h.lt (hf _ List.mem_cons_self)).trans h.f1,
    h.x.upd hu (fun z hz => hf _ (List.mem_cons_of_mem _ (List.mem_append_left _ (mem_blk.2 ⟨z, hz, rfl⟩)))), h.y.upd hu (fun z hz => hf _ (List.mem_cons_of_mem _ (List.mem_append_right _ (mem_blk.2 ⟨z, hz, rfl⟩)))), h.na, h.nb, h.lb, h.ls⟩
theorem RefAt.below {w w' : World} {base p : Nat} {a : Option Addr} {n c : Nat} {b : List Int} {a' : Option Addr} {n' c' : Nat} {s : List Int} {z : Int} (h : RefAt w base p a n c b a' n' c' s z) (hb : Below w.heap.size w w') : RefAt w' base p a n c b a' n' c' s z :=
  h.upd (F := fun _ => False) (Upd.ofBelow hb) (fun _ _ h => h)
theorem RefS.upd {w w' : World} {base p : Nat} {b s : List Int} {F G : Nat → Prop} (h : RefS w base p b s F) (hu : Upd G w w') (hf : ∀ j, F j → ¬ G j) : RefS w' base p b s F := by
  obtain ⟨a, n, c, a', n', c', z, h1, h2⟩ := h
  exact ⟨a, n, c, a', n', c', z, h1.upd hu (fun j hj => hf j ((h2 j).2 hj)), h2⟩
theorem RefS.below {w w' : World} {base p : Nat} {b s : List Int} {F : Nat → Prop} (h : RefS w base p b s F) (hb : Below w.heap.size w w') : RefS w' base p b s F :=
  h.upd (G := fun _ => False) (Upd.ofBelow hb) (fun _ _ h => h)
theorem RefS.mem {w : World} {base p : Nat} {b s : List Int} {F : Nat → Prop} (h : RefS w base p b s F) {j : Nat} (hj : F j) : base ≤ j ∧ j < w.heap.size := by
  obtain ⟨a, n, c, a', n', c', z, h1, h2⟩ := h
  exact h1.mem ((h2 j).1 hj)
theorem RefS.base {w : World} {base base' p : Nat} {b s : List Int} {F : Nat → Prop} (h : RefS w base p b s F) (hb : base' ≤ base) : RefS w base' p b s F := by
  obtain ⟨a, n, c, a', n', c', z, h1, h2⟩ := h
  exact ⟨a, n, c, a', n', c', z, ⟨Nat.le_trans hb h1.le, h1.lt, h1.c0, h1.c1, h1.c2, h1.f0, h1.f1, h1.x.base hb, h1.y.base hb, h1.na, h1.nb, h1.lb, h1.ls⟩, h2⟩
theorem RefS.own {w : World} {base p : Nat} {b s : List Int} {F : Nat → Prop} (h : RefS w base p b s F) : F p := by
  obtain ⟨a, n, c, a', n', c', z, h1, h2⟩ := h
  exact (h2 p).2 List.mem_cons_self
theorem RefS.lens {w : World} {base p : Nat} {b s : List Int} {F : Nat → Prop} (h : RefS w base p b s F) : b.length ≤ 32768 ∧ s.length ≤ 32768 := by
  obtain ⟨a, n, c, a', n', c', z, h1, h2⟩ := h; exact ⟨h1.lb, h1.ls⟩

/-- What a call may do to the document's file: its own struct, and new blocks. -/
def RefStep (w : World) (base p : Nat) (G : Nat → Prop) (b s : List Int) (w' : World) : Prop :=
  ∃ G', RefS w' base p b s G' ∧ Upd (· = p) w w' ∧ ∀ j, G' j → G j ∨ w.heap.size ≤ j
theorem RefStep.refl {w : World} {base p : Nat} {b s : List Int} {G : Nat → Prop} (h : RefS w base p b s G) : RefStep w base p G b s w := ⟨G, h, Upd.refl _ _, fun j hj => .inl hj⟩

/-- Now turned to new bytes. -/
theorem RefAt.turn0 {w w1 : World} {base p : Nat} {a : Option Addr} {n c : Nat} {b : List Int} {a' : Option Addr} {n' c' : Nat} {s : List Int} {z : Int} (h : RefAt w base p a n c b a' n' c' s z)
    {a1 : Option Addr} {n1 c1 : Nat} {b1 : List Int} (hB : Below w.heap.size w w1) (ho : OwnB 5 w1 w.heap.size a1 n1 c1 b1) (hb : b1.length ≤ 32768) :
    RefAt (w1.setCell ⟨p, 0, none⟩ (.slice a1 n1 c1)) base p a1 n1 c1 b1 a' n' c' s z ∧ Upd (· = p) w (w1.setCell ⟨p, 0, none⟩ (.slice a1 n1 c1)) ∧ ∀ j ∈ p :: (blk a1 ++ blk a'), j ∈ p :: (blk a ++ blk a') ∨ w.heap.size ≤ j := by
  have hlt := h.lt
  have hk : ∀ k ∈ blk a1, w.heap.size ≤ k := fun k hk => by
    obtain ⟨z, hz, rfl⟩ := mem_blk.1 hk
    exact (ho.2.lt z hz).1
  have hp : p ∉ blk a1 := fun hh => by have := hk p hh; omega
  have hpw : p < w1.heap.size := Nat.lt_of_lt_of_le h.lt hB.size
  have hS : Upd (· = p) w1 (w1.setCell ⟨p, 0, none⟩ (.slice a1 n1 c1)) := Upd.setCell _ _ _ rfl
  have hpc := bcell hB h.lt h.c0
  have hbase : base ≤ w.heap.size := Nat.le_trans h.le (Nat.le_of_lt h.lt)
  refine ⟨⟨h.le, by simpa using hpw, World.cell?_setCell_same _ _ _ hpc, keep_set (by decide) (bcell hB h.lt h.c1), keep_set (by decide) (bcell hB h.lt h.c2), by simpa using bfree hB h.lt h.f0, by simpa using bfree hB h.lt h.f1, (ho.base hbase).upd hS (fun z hz e => hp (mem_blk.2 ⟨z, hz, e⟩)), (h.y.mono hB).upd hS (fun z hz e => h.nb (mem_blk.2 ⟨z, hz, e⟩)), hp, h.nb, hb, h.ls⟩, ?_, ?_⟩
  · exact (Upd.ofBelow hB).trans hS (fun j _ hj => hj)
  · intro j hj
    rcases List.mem_cons.1 hj with rfl | hj
    · exact .inl List.mem_cons_self
    · rcases List.mem_append.1 hj with hj | hj
      · exact .inr (hk j hj)
      · exact .inl (List.mem_cons_of_mem _ (List.mem_append_right _ hj))

theorem refsnew {w : World} {T : TypeId} {z : Int} (base : Nat) (hb : base ≤ w.heap.size) : RefS (w.alloc (.cells #[.slice none 0 0, .slice none 0 0, .int .i64 z] T)) base w.heap.size [] [] (· = w.heap.size) := by
  have h := heap_alloc_new w (.cells #[.slice none 0 0, .slice none 0 0, .int .i64 z] T)
  exact ⟨none, 0, 0, none, 0, 0, z, ⟨hb, lt_of_heap h, cell_of_heap h 0 _ rfl, cell_of_heap h 1 _ rfl, cell_of_heap h 2 _ rfl, free_of_heap h _, free_of_heap h _, ⟨IsB.nil, Own.nil _ _ _ _⟩, ⟨IsB.nil, Own.nil _ _ _ _⟩, by simp [blk], by simp [blk], by simp, by simp⟩, fun j => by simp [blk]⟩

theorem refwrite_no (v : Value) (p : Int) (a : Option Addr) (n c : Nat) (w : World) (hp : -9223372036854775808 ≤ p ∧ p ≤ 9223372036854775807) (hn : n ≤ 140737488351232) (h : writeC p n ≠ 0) :
    Calls Try.prog 21 #[v, .int .i64 p, .slice a n c] w fun e w' => e = .returned (.int .i64 (writeC p n)) ∧ w = w' := by
  unfold writeC at h ⊢
  by_cases h1 : p < 0
  · rw [if_pos h1]
    clear h
    go_enter Try.func21, Try.ntmps21
    go_wp2
    go_ret
    exact ⟨rfl, rfl⟩
  · rw [if_neg h1] at h ⊢
    by_cases h2 : 32768 < p
    · rw [if_pos (.inl h2)]
      have h1' : 0 ≤ p := by omega
      clear h h1
      go_enter Try.func21, Try.ntmps21
      go_wp2
      go_ret
      exact ⟨rfl, rfl⟩
    · by_cases h3 : 32768 - p < n
      · rw [if_pos (.inr h3)]
        have h1' : 0 ≤ p := by omega
        have h2' : p ≤ 32768 := by omega
        clear h h1 h2
        go_enter Try.func21, Try.ntmps21
        go_wp2
        go_ret
        exact ⟨rfl, rfl⟩
      · rw [if_neg (by omega)] at h
        exact absurd rfl h

theorem refwrite_nil (v : Value) (p : Int) (a : Option Addr) (c : Nat) (w : World) (h1 : 0 ≤ p) (h2 : p ≤ 32768) :
    Calls Try.prog 21 #[v, .int .i64 p, .slice a 0 c] w fun e w' => e = .returned (.int .i64 0) ∧ w = w' := by
  have h3 : 0 ≤ 32768 - p := by omega
  go_enter Try.func21, Try.ntmps21
  go_wp2
  go_ret
  exact ⟨rfl, rfl⟩

/-- A slice's length. -/
def lenOf (v : Value) : Nat := match v with | .slice _ n _ => n | _ => 0

theorem spliceL_set {l x : List Int} {q k : Nat} (hk : k < x.length) (hl : q + x.length ≤ l.length) : (spliceL l q (x.take k)).set (q + k) (x[k]?.getD 0) = spliceL l q (x.take (k + 1)) := by
  unfold spliceL
  have hq : (l.take q).length = q := by simp; omega
  have hkl : (x.take k).length = k := by simp; omega
  have hkl1 : (x.take (k + 1)).length = k + 1 := by simp; omega
  rw [List.set_append_right _ _ (by omega), hq, Nat.add_sub_cancel_left, List.set_append_right _ _ (by omega), hkl, Nat.sub_self, hkl1]
  rw [List.drop_eq_getElem_cons (show q + k < l.length by omega), List.set_cons_zero, take_snoc x k hk, List.append_assoc]
  simp [Nat.add_assoc]

set_option maxHeartbeats 4000000 in
theorem refwrite_yes (base p q : Nat) (af : Option Addr) (nf cf : Nat) (bf : List Int) (a2 : Option Addr) (ns cs : Nat) (sf : List Int) (z : Int) (a : Option Addr) (n c : Nat) (l : List Int) (w : World)
    (h : RefAt w base p af nf cf bf a2 ns cs sf z) (hr : RdB w a n c l) (h1 : q + n ≤ 32768) (h0 : 0 < n) :
    Calls Try.prog 21 #[.pointer (some ⟨p, 0, none⟩), .int .i64 q, .slice a n c] w fun e w' => e = .returned (.int .i64 0) ∧
      ∃ a1 n1 c1, RefAt w' base p a1 n1 c1 (putIn bf q l) a2 ns cs sf z ∧ Upd (· = p) w w' ∧ ∀ j ∈ p :: (blk a1 ++ blk a2), j ∈ p :: (blk af ++ blk a2) ∨ w.heap.size ≤ j := by
  obtain rfl : l.length = n := hr.len
  obtain rfl : bf.length = nf := h.x.len
  have hcap := hr.2.2.1
  have hc0 := h.c0
  have hf0 := h.f0
  have hlt := h.lt
  have hlb := h.lb
  have t1 : (q : Int) ≤ 32768 := by omega
  have t2 : (l.length : Int) ≤ 32768 - (q : Int) := by omega
  have t3 : ((l.length : Int) == 0) = false := by rw [beq_eq_false_iff_ne]; omega
  have H := Lib.hid h
  have HR := Lib.hid hr
  have hc0a := bcell (below_alloc w (.cells #[] 5)) hlt hc0
  have hr1 := (h.x.rd.mono (below_alloc w (.cells #[] 5))).2
  have ho1 : Own (Value.int .u8) 5 (w.alloc (.cells #[] 5)) w.heap.size (some ⟨w.heap.size, 0, none⟩) 0 0 [] := Own.lit [] _ 0 rfl rfl (Nat.le_refl _) (Nat.zero_le _)
  clear h hr
  go_enter Try.func21, Try.ntmps21
  go_wp2_with (at_builtin; go_must (refine wpList_appOwn rfl rfl Try.oneB rfl rfl ho1 hr1 (fun _ => rfl) (by omega) (by omega) (by simp) ?_); intro a3 c3 w3 ho3 hb3 _ _)
  have hB3 : Below w.heap.size w w3 := (below_alloc w _).trans hb3
  rw [Nat.zero_add] at ho3
  clear hc0 hc0a hr1 ho1 hb3
  have HO3 := Lib.hid ho3
  have HB3 := Lib.hid hB3
  clear ho3 hB3
  have hb0 : 0 < bf.length + l.length := by omega
  go_wp2_with fail
  go_loopw [7] (fun o wr => ∃ (k : Nat) (a4 : Option Addr) (c4 : Nat), bf.length + k ≤ max bf.length (q + l.length) ∧ o = .slice a4 (bf.length + k) c4 ∧ Own (Value.int .u8) 5 wr w.heap.size a4 (bf.length + k) c4 (bf ++ List.replicate k 0) ∧ Below w.heap.size w wr) (fun o _ => q + l.length - lenOf o)
  case atStart => exact ⟨0, a3, c3, by omega, rfl, by simpa using HO3.out, HB3.out⟩
  case round =>
    obtain ⟨k, a4, c4, hk, rfl, ho, hB⟩ := hrel
    have hsz := hB.size
    by_cases hlt2 : bf.length + k < q + l.length
    · have q1 : (bf.length : Int) + (k : Int) < (q : Int) + (l.length : Int) := by omega
      go_wp2_with (at_builtin; go_must (refine wpList_appOwn rfl rfl Try.oneB rfl rfl (ho.alloc _) (Rd.one (Value.int .u8) _ _ 0) (fun _ => rfl) (by omega) (by omega) (by simp; omega) ?_); intro a5 c5 w5 ho5 hb5 _ _)
      go_roundw
      case rel => exact ⟨k + 1, a5, c5, by omega, rfl, by rw [List.replicate_succ', ← List.append_assoc]; exact ho5, hB.trans (((Below.refl _ wr).alloc hsz _).trans hb5)⟩
      case measure => simp [lenOf]; omega
    · have q1 : (q : Int) + (l.length : Int) ≤ (bf.length : Int) + (k : Int) := by omega
      have hpad : bf ++ List.replicate k 0 = padTo bf (q + l.length) := by unfold padTo; congr 2; omega
      rw [hpad] at ho
      obtain ⟨g, rfl, hg1, hg2⟩ := ho.at (by omega)
      have hpl : (padTo bf (q + l.length)).length = bf.length + k := ho.1
      have hcap4 := ho.rd.2.1
      obtain ⟨pd, hpd⟩ : ∃ pd, padTo bf (q + l.length) = pd := ⟨_, rfl⟩
      have HPD := Lib.hid hpd
      rw [hpd] at ho hpl
      have HO := Lib.hid ho
      have HB := Lib.hid hB
      have HPL := Lib.hid hpl
      have hkq : q + l.length ≤ bf.length + k := by omega
      have hks : bf.length + k ≤ 40000 := by omega
      clear hpad hpd ho hB hpl hlt2 hk
      go_wp2_with fail
      go_loopw [8] (fun i wx => ∃ (j : Nat), j ≤ l.length ∧ i = .int .i64 j ∧ Own (Value.int .u8) 5 wx w.heap.size (some ⟨g, 0, none⟩) (bf.length + k) c4 (spliceL pd q (l.take j)) ∧ Below w.heap.size w wx) (fun i _ => l.length - (intOf i).toNat)
      case atStart => exact ⟨0, Nat.zero_le _, rfl, by simpa [spliceL] using HO.out, HB.out⟩
      case round =>
        obtain ⟨j, hj, rfl, ho, hB⟩ := hrel
        have hsz := hB.size
        by_cases hlt3 : j < l.length
        · obtain ⟨b, off, rfl, hcell⟩ := cellAt (HR.out.2.mono hB) j hlt3
          have hx0 := ho.1
          obtain ⟨x, hx⟩ : ∃ x, (spliceL pd q (l.take j))[q + j]? = some x := ⟨_, List.getElem?_eq_getElem (by omega)⟩
          have kc := ho.cell (q + j) x hx
          have kf := ho.free (q + j)
          have hset := ho.set (q + j) l[j]
          rw [show (spliceL pd q (l.take j)).set (q + j) l[j] = spliceL pd q (l.take (j + 1)) by
            have := spliceL_set (l := pd) (x := l) (q := q) (k := j) hlt3 (by have := HPL.out; omega)
            rwa [List.getElem?_eq_getElem hlt3] at this] at hset
          have HSet := Lib.hid hset
          have j1 : (j : Int) < (l.length : Int) := by omega
          have j2 : (q : Int) + (j : Int) < (bf.length : Int) + (k : Int) := by omega
          generalize l[j] = v at *
          clear hset hx hx0 ho
          go_wp2_with fail
          go_roundw
          case rel => exact ⟨j + 1, by omega, by go_num, HSet.out, hB.setCell hg1 _⟩
          case measure => simp [intOf]; omega
        · obtain rfl : j = l.length := by omega
          rw [List.take_length] at ho
          have hT := H.out.turn0 hB ⟨by rw [← HPD.out]; exact putIn_isB H.out.x.1 HR.out.1 q, ho⟩ (by rw [ho.1.symm] at hks; have := ho.1; have := putIn_len bf q l; rw [← HPD.out]; show (putIn bf q l).length ≤ 32768; omega)
          have HT := Lib.hid hT
          have d0 := bcell hB hlt H.out.c0
          have f0 := bfree hB hlt H.out.f0
          clear hT ho
          go_wp2_with fail
          go_ret
          exact ⟨rfl, _, _, _, by have := HT.out.1; rw [← HPD.out] at this; exact this, HT.out.2.1, HT.out.2.2⟩

theorem refwrite_any (base p : Nat) (b s : List Int) (G : Nat → Prop) (q : Int) (a : Option Addr) (n c : Nat) (l : List Int) (w : World) (h : RefS w base p b s G) (hr : RdB w a n c l)
    (hq : -9223372036854775808 ≤ q ∧ q ≤ 9223372036854775807) (hn : n ≤ 140737488351232) :
    Calls Try.prog 21 #[.pointer (some ⟨p, 0, none⟩), .int .i64 q, .slice a n c] w fun e w' => e = .returned (.int .i64 (writeC q l.length)) ∧ RefStep w base p G (writeL b q l) s w' := by
  obtain rfl : l.length = n := hr.len
  by_cases h0 : writeC q l.length = 0
  · have h1 := writeC_ok h0
    obtain ⟨k, rfl⟩ : ∃ k : Nat, q = k := ⟨q.toNat, by omega⟩
    rw [h0]
    by_cases hl : l = []
    · subst hl
      refine (refwrite_nil _ _ a c w h1.1 (by omega)).mono ?_
      rintro e w' ⟨rfl, rfl⟩
      refine ⟨rfl, ?_⟩
      unfold writeL
      rw [if_neg (by simp)]
      exact RefStep.refl h
    · have hpos : 0 < l.length := List.length_pos_iff.2 hl
      obtain ⟨af, nf, cf, a2, ns, cs, z, hA, hF⟩ := h
      refine (refwrite_yes base p k af nf cf b a2 ns cs s z a _ c l w hA hr (by omega) hpos).mono ?_
      rintro e w' ⟨rfl, a1, n1, c1, g1, g2, g3⟩
      refine ⟨rfl, _, ⟨a1, n1, c1, a2, ns, cs, z, ?_, fun j => Iff.rfl⟩, g2, fun j hj => (g3 j hj).imp (hF j).2 id⟩
      unfold writeL
      rw [if_pos ⟨h0, hl⟩, Int.toNat_natCast]
      exact g1
  · refine (refwrite_no _ q a _ c w hq hn h0).mono ?_
    rintro e w' ⟨rfl, rfl⟩
    refine ⟨rfl, ?_⟩
    unfold writeL
    rw [if_neg (fun hh => h0 hh.1)]
    exact RefStep.refl h
end Go.Proofs.Ytenikpbnggkmgaa
