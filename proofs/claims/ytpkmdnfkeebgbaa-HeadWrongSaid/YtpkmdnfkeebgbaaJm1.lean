/- Contracts and plain laws that this claim uses, each with its conditions as premises. -/
import Derived.Test.YtpkmdnfkeebgbaaRows
import Derived.WalkKit
import Derived.ProofKit
import Derived.OpenShut
import Derived.WalkLawsBesides
import Derived.WalkSpells
import Derived.Lib.Hide
import Derived.Deep.QuietTactic
import Derived.BigQuiet
import Derived.Laws.AppendOwnNone
import Derived.Laws.CopyOwn
import Derived.Deep.RegionLaw
import Derived.Lib.SlBytesConst
import Derived.Maps.AppendAt
import Derived.Lib.AppendZerosOnto
/- Plain facts on lists of bytes and the numbers that they spell, the lowest byte first. No program in sight; no condition. -/
namespace Go.Proofs.Ytpkmdnfkeebgbaa
set_option linter.unusedVariables false

/-- Every member is a byte. -/
def IsB (l : List Int) : Prop := ∀ x ∈ l, 0 ≤ x ∧ x ≤ 255

theorem IsB.nil : IsB [] := fun x hx => by cases hx
theorem IsB.cons {c : Int} {l : List Int} (h1 : 0 ≤ c ∧ c ≤ 255) (h : IsB l) : IsB (c :: l) := fun x hx => by
  rcases List.mem_cons.1 hx with rfl | hx
  · exact h1
  · exact h x hx
theorem IsB.append {a b : List Int} (ha : IsB a) (hb : IsB b) : IsB (a ++ b) := fun x hx => by
  rcases List.mem_append.1 hx with hx | hx
  · exact ha x hx
  · exact hb x hx
theorem IsB.take {l : List Int} (h : IsB l) (n : Nat) : IsB (l.take n) := fun x hx => h x (List.mem_of_mem_take hx)
theorem IsB.drop {l : List Int} (h : IsB l) (n : Nat) : IsB (l.drop n) := fun x hx => h x (List.mem_of_mem_drop hx)
theorem IsB.getD {l : List Int} (h : IsB l) (i : Nat) : 0 ≤ l[i]?.getD 0 ∧ l[i]?.getD 0 ≤ 255 := by
  by_cases hi : i < l.length
  · rw [List.getElem?_eq_getElem hi]; exact h _ (List.getElem_mem hi)
  · rw [List.getElem?_eq_none (by omega)]; simp
theorem IsB.replicate (n : Nat) : IsB (List.replicate n 0) := fun x hx => by
  rw [List.eq_of_mem_replicate hx]; omega

/-- The number that bytes spell, the lowest first. -/
def leN : List Int → Int
  | [] => 0
  | c :: r => c + 256 * leN r

/-- The lowest n bytes of a number. -/
def digs : Nat → Int → List Int
  | 0, _ => []
  | n + 1, v => v % 256 :: digs n (v / 256)

theorem digs_length (n : Nat) (v : Int) : (digs n v).length = n := by
  induction n generalizing v with
  | zero => rfl
  | succ n ih => simp [digs, ih]

theorem digs_isB (n : Nat) (v : Int) : IsB (digs n v) := by
  induction n generalizing v with
  | zero => exact IsB.nil
  | succ n ih => exact IsB.cons (by omega) (ih _)

theorem digs_snoc (n : Nat) (v : Int) : digs (n + 1) v = digs n v ++ [v / 256 ^ n % 256] := by
  induction n generalizing v with
  | zero => simp [digs]
  | succ n ih =>
    rw [digs, ih]
    simp only [digs, List.cons_append, List.cons.injEq, true_and]
    rw [Int.ediv_ediv_of_nonneg (by decide), Int.pow_succ, Int.mul_comm 256]

theorem leN_bound (l : List Int) (h : IsB l) : 0 ≤ leN l ∧ leN l < 256 ^ l.length := by
  induction l with
  | nil => simp [leN]
  | cons c r ih =>
    have hc := h c (List.mem_cons_self)
    have hr := ih (fun x hx => h x (List.mem_cons_of_mem _ hx))
    simp only [leN, List.length_cons, Int.pow_succ]
    omega

theorem leN_le (l : List Int) (h : IsB l) (n : Nat) (hn : l.length ≤ n) : 0 ≤ leN l ∧ leN l < 256 ^ n := by
  have hb := leN_bound l h
  have : (256 : Int) ^ l.length ≤ 256 ^ n := by
    rcases Nat.lt_or_ge l.length n with h1 | h1
    · exact Int.le_of_lt (Int.pow_lt_pow_of_lt (by decide) h1)
    · rw [show l.length = n by omega]; exact Int.le_refl _
  omega

theorem take_succ_drop (l : List Int) (j k : Nat) (h : j < l.length) : (l.drop j).take (k + 1) = l[j]?.getD 0 :: (l.drop (j + 1)).take k := by
  rw [List.drop_eq_getElem_cons h, List.take_succ_cons]
  simp [h]

theorem take_snoc (l : List Int) (k : Nat) (h : k < l.length) : l.take (k + 1) = l.take k ++ [l[k]?.getD 0] := by
  rw [List.take_succ_eq_append_getElem h]
  simp [h]

theorem emod_step (v m : Int) (hm : 0 < m) : v % 256 + 256 * (v / 256 % m) = v % (256 * m) := by
  have h1 := Int.emod_add_mul_ediv v 256
  have h2 := Int.emod_add_mul_ediv (v / 256) m
  have h3 := Int.emod_nonneg (v / 256) (show m ≠ 0 by omega)
  have h4 := Int.emod_lt_of_pos (v / 256) hm
  refine (((Int.ediv_emod_unique (b := 256 * m) (q := v / 256 / m) (by omega)).2 ⟨?_, by omega, by omega⟩).2).symm
  rw [Int.mul_assoc]
  omega

theorem leN_digs (n : Nat) (v : Int) : leN (digs n v) = v % 256 ^ n := by
  induction n generalizing v with
  | zero => simp [digs, leN, Int.emod_one]
  | succ n ih =>
    rw [digs, leN, ih, Int.pow_succ, Int.mul_comm (256 ^ n) 256]
    exact emod_step v _ (Int.pow_pos (by decide))

theorem digs_leN (l : List Int) (h : IsB l) : digs l.length (leN l) = l := by
  induction l with
  | nil => rfl
  | cons c r ih =>
    have hc := h c (List.mem_cons_self)
    simp only [List.length_cons, digs, leN]
    have e1 : (c + 256 * leN r) % 256 = c := by omega
    have e2 : (c + 256 * leN r) / 256 = leN r := by omega
    rw [e1, e2, ih (fun x hx => h x (List.mem_cons_of_mem _ hx))]

/-- l with the lowest k bytes of v at a place. -/
def putL (l : List Int) (p k : Nat) (v : Int) : List Int := l.take p ++ (digs k v ++ l.drop (p + k))

theorem putL_zero (l : List Int) (p : Nat) (v : Int) : putL l p 0 v = l := by simp [putL, digs]
theorem putL_length (l : List Int) (p k : Nat) (v : Int) (h : p + k ≤ l.length) : (putL l p k v).length = l.length := by
  simp [putL, digs_length]; omega
theorem putL_isB (l : List Int) (p k : Nat) (v : Int) (h : IsB l) : IsB (putL l p k v) := (h.take _).append ((digs_isB _ _).append (h.drop _))
theorem putL_read (l : List Int) (p k : Nat) (v : Int) (h : p + k ≤ l.length) : ((putL l p k v).drop p).take k = digs k v := by
  have hp : (l.take p).length = p := by simp; omega
  rw [putL, List.drop_append_of_le_length (by omega), List.drop_of_length_le (by omega), List.nil_append, List.take_append_of_le_length (by rw [digs_length]; omega), List.take_of_length_le (by rw [digs_length]; omega)]
theorem putL_left (l : List Int) (p k : Nat) (v : Int) (h : p + k ≤ l.length) : (putL l p k v).take p = l.take p := by
  have hp : (l.take p).length = p := by simp; omega
  rw [putL, List.take_append_of_le_length (by omega), List.take_of_length_le (by omega)]
theorem putL_right (l : List Int) (p k : Nat) (v : Int) (h : p + k ≤ l.length) : (putL l p k v).drop (p + k) = l.drop (p + k) := by
  have hp : (l.take p).length = p := by simp; omega
  rw [putL, ← List.append_assoc]
  exact List.drop_left' (by simp [digs_length]; omega)
theorem add_read (l : List Int) (k : Nat) (v : Int) : ((l ++ digs k v).drop l.length).take k = digs k v := by
  rw [List.drop_append_of_le_length (by omega), List.drop_of_length_le (by omega), List.nil_append, List.take_of_length_le (by rw [digs_length]; omega)]
theorem putL_set (l : List Int) (p k : Nat) (v : Int) (h : p + k < l.length) : (putL l p k v).set (p + k) (v / 2 ^ (8 * k) % 256) = putL l p (k + 1) v := by
  have e : (v / 2 ^ (8 * k) % 256) = v / 256 ^ k % 256 := by rw [Int.pow_mul]; rfl
  rw [e]
  unfold putL
  have hp : (l.take p).length = p := by simp; omega
  rw [List.set_append_right _ _ (by omega), hp, show p + k - p = k by omega, List.set_append_right _ _ (by rw [digs_length]; omega), digs_length, Nat.sub_self,
    List.drop_eq_getElem_cons h, List.set_cons_zero, digs_snoc]
  simp [Nat.add_assoc]

end Go.Proofs.Ytpkmdnfkeebgbaa

/- General words and small laws for this claim's walks: what a slice reads as, what a call owns, appends and cuts. No condition. -/
namespace Go.Proofs.Ytpkmdnfkeebgbaa
open Go.ChangeShapes Go.WideShapes Go.ChangeAt Go.RowKit
set_option linter.unusedVariables false

theorem ret_bool {a b : Bool} (h : a = b) : Ending.returned (.bool a) = .returned (.bool b) := by rw [h]
theorem ret_int {k : IntKind} {a b : Int} (h : a = b) : Ending.returned (.int k a) = .returned (.int k b) := by rw [h]

theorem ret_sl {a : Option Addr} {n m c : Nat} (h : n = m) : Ending.returned (.slice a n c) = .returned (.slice a m c) := by rw [h]
theorem ret_slb {a : Option Addr} {n m c : Nat} {b : Bool} (h : n = m) : Ending.returned (.tuple #[.slice a n c, .bool b]) = .returned (.tuple #[.slice a m c, .bool b]) := by rw [h]

theorem ret_slc {a : Option Addr} {n m c : Nat} {k : IntKind} {x : Int} (h : n = m) : Ending.returned (.tuple #[.slice a n c, .int k x]) = .returned (.tuple #[.slice a m c, .int k x]) := by rw [h]

theorem addr_add (b off i : Nat) : (⟨b, off, none⟩ : Addr).add i = ⟨b, off + i, none⟩ := by
  unfold Addr.add; split <;> simp_all

section
variable {α : Type}

/-- The cells from an address on hold l. -/
def Cells (enc : α → Value) (w : World) (b off : Nat) (l : List α) : Prop := ∀ i x, l[i]? = some x → w.cell? ⟨b, off + i, none⟩ = some (enc x)

/-- A slice reads as l: nil, or cells that hold it. -/
def Rd (enc : α → Value) (w : World) (a : Option Addr) (len cap : Nat) (l : List α) : Prop :=
  l.length = len ∧ len ≤ cap ∧ cap ≤ maxLen ∧ (a = none → cap = 0) ∧ (len = 0 ∨ ∃ b off, a = some ⟨b, off, none⟩ ∧ b < w.heap.size ∧ Cells enc w b off l)

/-- A slice that the call owns from block base on, and what it holds. -/
def Own (enc : α → Value) (e : TypeId) (w : World) (base : Nat) (a : Option Addr) (len cap : Nat) (l : List α) : Prop :=
  l.length = len ∧ w.ownsRow base e 1 (.slice a len cap) len (l.map enc)

theorem Own.rd {enc : α → Value} {e : TypeId} {w : World} {base : Nat} {a : Option Addr} {len cap : Nat} {l : List α} (h : Own enc e w base a len cap l) : Rd enc w a len cap l := by
  obtain ⟨hl, h⟩ := h
  rcases h.2 with ⟨h', h0⟩ | ⟨g', cap', cur, h', hb, hg, h1, h2, h3, h4⟩
  · simp only [Value.slice.injEq] at h'
    exact ⟨hl, by omega, by unfold maxLen; omega, fun _ => h'.2.2, .inl h'.2.1⟩
  · simp only [Value.slice.injEq, true_and] at h'
    obtain ⟨rfl, rfl⟩ := h'
    refine ⟨hl, h1, h2, fun h => by (cases h), .inr ⟨g', 0, rfl, (Array.getElem?_eq_some_iff.1 hg).1, fun i x hx => ?_⟩⟩
    have := h.cells (g := g') rfl i (enc x) (by simp [hx])
    rwa [addr_add] at this

theorem Cells.mono {enc : α → Value} {w w' : World} {b off : Nat} {l : List α} (h : Cells enc w b off l) (hb : w'.heap[b]? = w.heap[b]?) : Cells enc w' b off l :=
  fun i x hx => (World.cell?_of_block (w := w) (a := ⟨b, off + i, none⟩) hb).trans (h i x hx)

theorem Rd.mono {enc : α → Value} {w w' : World} {a : Option Addr} {len cap : Nat} {l : List α} (h : Rd enc w a len cap l) (hb : Below w.heap.size w w') : Rd enc w' a len cap l := by
  obtain ⟨h1, h2, h3, hn, h4⟩ := h
  refine ⟨h1, h2, h3, hn, ?_⟩
  rcases h4 with h4 | ⟨b, off, rfl, hlt, hc⟩
  · exact .inl h4
  · exact .inr ⟨b, off, rfl, Nat.lt_of_lt_of_le hlt hb.size, hc.mono (hb.block b hlt)⟩

/-- What lies below B is read behind whatever was written from B on. -/
theorem Rd.below {enc : α → Value} {w w' : World} {a : Option Addr} {len cap : Nat} {l : List α} {B : Nat} (h : Rd enc w a len cap l) (hb : Below B w w') (hB : ∀ x, a = some x → x.block < B) : Rd enc w' a len cap l := by
  obtain ⟨h1, h2, h3, hn, h4⟩ := h
  refine ⟨h1, h2, h3, hn, ?_⟩
  rcases h4 with h4 | ⟨b, off, rfl, hlt, hc⟩
  · exact .inl h4
  · exact .inr ⟨b, off, rfl, Nat.lt_of_lt_of_le hlt hb.size, hc.mono (hb.block b (hB _ rfl))⟩

/-- A slice with elements has an address. -/
theorem Rd.at {enc : α → Value} {w : World} {a : Option Addr} {len cap : Nat} {l : List α} (h : Rd enc w a len cap l) (hp : 0 < len) : ∃ b off, a = some ⟨b, off, none⟩ ∧ b < w.heap.size ∧ Cells enc w b off l := by
  obtain ⟨h1, h2, h3, hn, h4⟩ := h
  rcases h4 with h4 | h4
  · omega
  · exact h4

theorem Own.mono {enc : α → Value} {e : TypeId} {w w' : World} {base : Nat} {a : Option Addr} {len cap : Nat} {l : List α} (h : Own enc e w base a len cap l) (hb : Below w.heap.size w w') : Own enc e w' base a len cap l := by
  obtain ⟨hl, h1, h2⟩ := h
  refine ⟨hl, h1, ?_⟩
  rcases h2 with h2 | ⟨g, c, cur, hv, hbg, hg, rest⟩
  · exact .inl h2
  · exact .inr ⟨g, c, cur, hv, hbg, by rw [hb.block g (Array.getElem?_eq_some_iff.1 hg).1]; exact hg, rest⟩

/-- What is owned from base on is owned from any lower number on. -/
theorem Own.base {enc : α → Value} {e : TypeId} {w : World} {base base' : Nat} {a : Option Addr} {len cap : Nat} {l : List α} (h : Own enc e w base a len cap l) (hb : base' ≤ base) : Own enc e w base' a len cap l := by
  obtain ⟨hl, h1, h2⟩ := h
  refine ⟨hl, h1, ?_⟩
  rcases h2 with h2 | ⟨g, c, cur, hv, hbg, rest⟩
  · exact .inl h2
  · exact .inr ⟨g, c, cur, hv, by omega, rest⟩

theorem Own.ge {enc : α → Value} {e : TypeId} {w : World} {base : Nat} {a : Option Addr} {len cap : Nat} {l : List α} (h : Own enc e w base a len cap l) : ∀ x, a = some x → base ≤ x.block := by
  rintro x rfl
  obtain ⟨hl, h1, h2⟩ := h
  rcases h2 with ⟨h2, _⟩ | ⟨g, c, cur, hv, hbg, rest⟩
  · cases h2
  · cases hv; exact hbg

theorem Own.nil (enc : α → Value) (e : TypeId) (w : World) (base : Nat) : Own enc e w base none 0 0 [] := ⟨rfl, World.ownsRow_nil w base e 1⟩

/-- A literal, just laid. -/
theorem Own.lit {enc : α → Value} {e : TypeId} {w : World} {base : Nat} (l : List α) (cs : Array Value) (n : Nat) (hcs : cs = (l.map enc).toArray) (hn : l.length = n) (hb : base ≤ w.heap.size) (hm : n ≤ maxLen) :
    Own enc e (w.alloc (.cells cs e)) base (some ⟨w.heap.size, 0, none⟩) n n l := by
  subst hcs
  have := World.ownsRow_lit (base := base) (e := e) (size := 1) w (l.map enc).toArray n hb hm (by simpa using hn)
  exact ⟨hn, by simpa using this⟩

/-- What is owned and has elements lies at its block's head. -/
theorem Own.at {enc : α → Value} {e : TypeId} {w : World} {base : Nat} {a : Option Addr} {len cap : Nat} {l : List α} (h : Own enc e w base a len cap l) (hp : 0 < len) : ∃ g, a = some ⟨g, 0, none⟩ ∧ base ≤ g ∧ g < w.heap.size := by
  obtain ⟨hl, h1, h2⟩ := h
  rcases h2 with ⟨_, h2⟩ | ⟨g, c, cur, hv, hbg, hg, rest⟩
  · omega
  · cases hv; exact ⟨g, rfl, hbg, (Array.getElem?_eq_some_iff.1 hg).1⟩

theorem Own.cell {enc : α → Value} {e : TypeId} {w : World} {base : Nat} {g len cap : Nat} {l : List α} (h : Own enc e w base (some ⟨g, 0, none⟩) len cap l) (j : Nat) (x : α) (hx : l[j]? = some x) : w.cell? ⟨g, j, none⟩ = some (enc x) := by
  have hj : j < len := by have := (List.getElem?_eq_some_iff.1 hx).1; have := h.1; omega
  rw [h.2.cellAt j (by omega), List.getElem?_map, hx]; rfl

theorem Own.free {enc : α → Value} {e : TypeId} {w : World} {base : Nat} {g len cap : Nat} {l : List α} (h : Own enc e w base (some ⟨g, 0, none⟩) len cap l) (j : Nat) : w.frozen? ⟨g, j, none⟩ = false := h.2.frozenAt j

theorem Own.set {enc : α → Value} {e : TypeId} {w : World} {base : Nat} {g len cap : Nat} {l : List α} (h : Own enc e w base (some ⟨g, 0, none⟩) len cap l) (j : Nat) (x : α) : Own enc e (w.setCell ⟨g, j, none⟩ (enc x)) base (some ⟨g, 0, none⟩) len cap (l.set j x) := by
  have := (h.2.stored j (enc x)).1
  exact ⟨by simpa using h.1, by rw [List.map_set]; exact this⟩

theorem Own.alloc {enc : α → Value} {e : TypeId} {w : World} {base : Nat} {a : Option Addr} {len cap : Nat} {l : List α} (h : Own enc e w base a len cap l) (o : Obj) : Own enc e (w.alloc o) base a len cap l := h.mono ((Below.refl _ _).alloc (Nat.le_refl _) o)
theorem Rd.alloc {enc : α → Value} {w : World} {a : Option Addr} {len cap : Nat} {l : List α} (h : Rd enc w a len cap l) (o : Obj) : Rd enc (w.alloc o) a len cap l := h.mono ((Below.refl _ _).alloc (Nat.le_refl _) o)

/-- One element, just laid: the source of 'append(x, y)'. -/
theorem Rd.one (enc : α → Value) (e : TypeId) (w : World) (x : α) : Rd enc (w.alloc (.cells #[enc x] e)) (some ⟨w.heap.size, 0, none⟩) 1 1 [x] :=
  (Own.lit (base := 0) (e := e) [x] #[enc x] 1 rfl rfl (Nat.zero_le _) (by unfold maxLen; omega)).rd

theorem Rd.take {enc : α → Value} {w : World} {a : Option Addr} {len cap : Nat} {l : List α} (h : Rd enc w a len cap l) (n : Nat) (hn : n ≤ len) : Rd enc w a n cap (l.take n) := by
  obtain ⟨h1, h2, h3, hn, h4⟩ := h
  refine ⟨by simp; omega, by omega, h3, hn, ?_⟩
  rcases h4 with h4 | ⟨b, off, rfl, hlt, hc⟩
  · exact .inl (by omega)
  · refine .inr ⟨b, off, rfl, hlt, fun i x hx => hc i x ?_⟩
    rw [List.getElem?_take] at hx
    split at hx
    · exact hx
    · cases hx

theorem Rd.sliced {enc : α → Value} {w : World} {a : Option Addr} {len cap : Nat} {l : List α} (h : Rd enc w a len cap l) (lo hi : Nat) (h1 : lo ≤ hi) (h2 : hi ≤ len) :
    Rd enc w (if cap = lo then a else a.map (·.add (lo * 1))) (hi - lo) (cap - lo) ((l.drop lo).take (hi - lo)) := by
  obtain ⟨g1, g2, g3, gn, g4⟩ := h
  refine ⟨by simp; omega, by omega, by omega, ?_, ?_⟩
  · intro h
    split at h
    · omega
    · have := gn (by simpa using h); omega
  rcases g4 with g4 | ⟨b, off, rfl, hlt, hc⟩
  · left; omega
  · right
    by_cases hcl : cap = lo
    · rw [if_pos hcl]
      refine ⟨b, off, rfl, hlt, fun i x hx => ?_⟩
      rw [show hi - lo = 0 by omega] at hx
      simp at hx
    · rw [if_neg hcl]
      refine ⟨b, off + lo, by simp [addr_add], hlt, fun i x hx => ?_⟩
      rw [List.getElem?_take] at hx
      split at hx
      · rw [List.getElem?_drop] at hx
        rw [Nat.add_assoc]
        exact hc _ x hx
      · cases hx
end

/-- A slice of bytes reads as l. -/
def RdB (w : World) (a : Option Addr) (len cap : Nat) (l : List Int) : Prop := IsB l ∧ Rd (Value.int .u8) w a len cap l
/-- A slice of bytes that the call owns. -/
def OwnB (e : TypeId) (w : World) (base : Nat) (a : Option Addr) (len cap : Nat) (l : List Int) : Prop := IsB l ∧ Own (Value.int .u8) e w base a len cap l

theorem cellInt {k : IntKind} {w : World} {b off : Nat} {l : List Int} (h : Cells (Value.int k) w b off l) (i : Nat) (hi : i < l.length) : w.cell? ⟨b, off + i, none⟩ = some (.int k (l[i]?.getD 0)) := by
  rw [h i l[i] (List.getElem?_eq_getElem hi), List.getElem?_eq_getElem hi]; rfl

theorem OwnB.rd {e : TypeId} {w : World} {base : Nat} {a : Option Addr} {len cap : Nat} {l : List Int} (h : OwnB e w base a len cap l) : RdB w a len cap l := ⟨h.1, h.2.rd⟩
theorem RdB.mono {w w' : World} {a : Option Addr} {len cap : Nat} {l : List Int} (h : RdB w a len cap l) (hb : Below w.heap.size w w') : RdB w' a len cap l := ⟨h.1, h.2.mono hb⟩
theorem OwnB.mono {e : TypeId} {w w' : World} {base : Nat} {a : Option Addr} {len cap : Nat} {l : List Int} (h : OwnB e w base a len cap l) (hb : Below w.heap.size w w') : OwnB e w' base a len cap l := ⟨h.1, h.2.mono hb⟩
theorem OwnB.base {e : TypeId} {w : World} {base base' : Nat} {a : Option Addr} {len cap : Nat} {l : List Int} (h : OwnB e w base a len cap l) (hb : base' ≤ base) : OwnB e w base' a len cap l := ⟨h.1, h.2.base hb⟩
theorem Below.drewN' (w : World) (n : Nat) : Below w.heap.size w (w.drewN n) := ⟨rfl, rfl, rfl, Nat.le_refl _, fun _ _ => rfl⟩
theorem bel_drewN {B : Nat} {a w : World} (h : Below B a w) (n : Nat) : Below B a (w.drewN n) := h.trans ⟨rfl, rfl, rfl, Nat.le_refl _, fun _ _ => rfl⟩
theorem RdB.drewN {w : World} {a : Option Addr} {len cap : Nat} {l : List Int} (h : RdB w a len cap l) (n : Nat) : RdB (w.drewN n) a len cap l := h.mono (Below.drewN' w n)
theorem RdB.sliced {w : World} {a : Option Addr} {len cap : Nat} {l : List Int} (h : RdB w a len cap l) (lo hi : Nat) (h1 : lo ≤ hi) (h2 : hi ≤ len) :
    RdB w (if cap = lo then a else a.map (·.add lo)) (hi - lo) (cap - lo) ((l.drop lo).take (hi - lo)) := by
  have := h.2.sliced lo hi h1 h2
  rw [Nat.mul_one] at this
  exact ⟨(h.1.drop _).take _, this⟩
theorem RdB.take {w : World} {a : Option Addr} {len cap : Nat} {l : List Int} (h : RdB w a len cap l) (n : Nat) (hn : n ≤ len) : RdB w a n cap (l.take n) := ⟨h.1.take _, h.2.take n hn⟩
theorem RdB.len {w : World} {a : Option Addr} {len cap : Nat} {l : List Int} (h : RdB w a len cap l) : l.length = len := h.2.1
theorem OwnB.len {e : TypeId} {w : World} {base : Nat} {a : Option Addr} {len cap : Nat} {l : List Int} (h : OwnB e w base a len cap l) : l.length = len := h.2.1

section
variable {α : Type} {P : Program} {w : World} {ops : Array Oper} {rest : List Oper} {o : Oper} {a : Act} {Q : Exit → Act → World → Prop}

/-- The element type's row of the table, for an element of one cell. -/
def OneInfo (P : Program) (t e : TypeId) (bytes : Nat) : Prop := P.underlying t = some (.slice e) ∧ ∃ i z, P.info? e = some i ∧ i.zero = some z ∧ i.size = 1 ∧ i.bytes = bytes ∧ z.cells.size = 1

/-- append to what the call owns, from whatever source reads as l2: nil or not. The answer is the call's own. -/
theorem wp_appOwn {enc : α → Value} {K : Act → World → Prop} {s x : Operand} {t : TypeId} (ho : o.op = .call { callee := .builtin .append, args := #[s, x], argTypes := #[t, t] })
    {base : Nat} {e : TypeId} {bytes : Nat} (hI : OneInfo P t e bytes) {sa xa : Option Addr} {sn sc xn xc : Nat} (hs : a.eval s = .slice sa sn sc) (hx : a.eval x = .slice xa xn xc)
    {l1 l2 : List α} (hown : Own enc e w base sa sn sc l1) (hr : Rd enc w xa xn xc l2) (h1 : ∀ y, (enc y).oneCell' = true)
    (hfit : (sn + xn) * bytes ≤ 140737488355328) (hfit2 : sn + xn ≤ 140737488355328) (hbase : base ≤ w.heap.size)
    (h : ∀ a' c' w', Own enc e w' base a' (sn + xn) c' (l1 ++ l2) → Below base w w' → (a' = none → sa = none) → w.grownBy w' (Value.slice sa sn sc).ownBlock → K (a.put o.dst (.slice a' (sn + xn) c')) w') : o.wp P a w K Q := by
  obtain ⟨ht, i, z, hi, hz, hsize, hby, hzs⟩ := hI
  obtain ⟨hl1, how⟩ := hown
  obtain ⟨hl2, hc1, hc2, hcn, hcells⟩ := hr
  have hlt := fun k hk => (how.lt k hk).1
  have hsrc : (xa = none ∧ xn = 0 ∧ xc = 0) ∨ ∃ ad, xa = some ad ∧ ∀ j y, l2[j]? = some y → w.cell? (ad.add j) = some (enc y) := by
    rcases hcells with h0 | ⟨b, off, rfl, hbk, hc⟩
    · cases xa with
      | none => exact .inl ⟨rfl, h0, hcn rfl⟩
      | some ad =>
        refine .inr ⟨ad, rfl, fun j y hy => ?_⟩
        obtain rfl : l2 = [] := List.eq_nil_of_length_eq_zero (by omega)
        simp at hy
    · exact .inr ⟨_, rfl, fun j y hy => by rw [addr_add]; exact hc j y hy⟩
  rcases hsrc with ⟨rfl, rfl, rfl⟩ | ⟨ad, rfl, hc⟩
  · obtain rfl : l2 = [] := List.eq_nil_of_length_eq_zero hl2
    have hrun := run_append_owned_none (P := P) (w := w) base t o.type e i 1 ht hi _ sn _ how
    have := h sa sc w ⟨by simpa using hl1, by simpa using how⟩ (Below.refl _ _) (fun h => h) ⟨rfl, rfl, rfl, Nat.le_refl _, fun _ _ _ => rfl⟩
    unfold Oper.wp
    simp [execOp, ho, resolve, invoke, builtin, hs, hx, hrun, Result.andThen]
    exact this
  · refine wp_append_own w s x t ho base e i z 1 bytes ht hi hz hsize hby hzs (by decide) _ sn _ hs how ad xn xc (l2.map enc) hx (by simpa using hl2) ?_ ?_ (by unfold maxLen; omega) hfit hbase ?_
    · intro j u hu
      rw [List.getElem?_map] at hu
      obtain ⟨y, hy, rfl⟩ := Option.map_eq_some_iff.1 hu
      exact hc j y hy
    · intro u hu
      obtain ⟨y, _, rfl⟩ := List.mem_map.1 hu
      exact h1 y
    · intro v' w' hv' hg hn
      rcases hv'.2 with ⟨rfl, h0⟩ | ⟨g', cap', cur, rfl, rest'⟩
      · obtain ⟨h5, h6⟩ := hn.1 rfl
        subst h6
        have hh := h none 0 w' ⟨by simp; omega, by rw [← List.map_append] at hv'; rw [h0] at hv' ⊢; exact hv'⟩ ((Below.refl _ _).grown hg hbase hlt) (fun _ => by simp at h5; exact h5.1) hg
        rw [h0] at hh
        exact hh
      · exact h _ cap' w' ⟨by simp; omega, by rw [← List.map_append] at hv'; exact hv'⟩ ((Below.refl _ _).grown hg hbase hlt) (fun h => by cases h) hg

theorem wpList_appOwn {enc : α → Value} (hgd : o.guard = none) {s x : Operand} {t : TypeId} (ho : o.op = .call { callee := .builtin .append, args := #[s, x], argTypes := #[t, t] })
    {base : Nat} {e : TypeId} {bytes : Nat} (hI : OneInfo P t e bytes) {sa xa : Option Addr} {sn sc xn xc : Nat} (hs : a.eval s = .slice sa sn sc) (hx : a.eval x = .slice xa xn xc)
    {l1 l2 : List α} (hown : Own enc e w base sa sn sc l1) (hr : Rd enc w xa xn xc l2) (h1 : ∀ y, (enc y).oneCell' = true)
    (hfit : (sn + xn) * bytes ≤ 140737488355328) (hfit2 : sn + xn ≤ 140737488355328) (hbase : base ≤ w.heap.size)
    (h : ∀ a' c' w', Own enc e w' base a' (sn + xn) c' (l1 ++ l2) → Below base w w' → (a' = none → sa = none) → w.grownBy w' (Value.slice sa sn sc).ownBlock → wpList P ops Q rest (a.put o.dst (.slice a' (sn + xn) c')) w') : wpList P ops Q (o :: rest) a w :=
  wpList_plain hgd fun _ hK => wp_appOwn ho hI hs hx hown hr h1 hfit hfit2 hbase fun a' c' w' h2 h3 h4 h5 => hK _ _ (h a' c' w' h2 h3 h4 h5)

/-- The same, of a guarded append whose guard says yes. -/
theorem wpList_appOwnG {enc : α → Value} (hw : Region.wanted o (yielded ops a.tmps) = true) {s x : Operand} {t : TypeId} (ho : o.op = .call { callee := .builtin .append, args := #[s, x], argTypes := #[t, t] })
    {base : Nat} {e : TypeId} {bytes : Nat} (hI : OneInfo P t e bytes) {sa xa : Option Addr} {sn sc xn xc : Nat} (hs : a.eval s = .slice sa sn sc) (hx : a.eval x = .slice xa xn xc)
    {l1 l2 : List α} (hown : Own enc e w base sa sn sc l1) (hr : Rd enc w xa xn xc l2) (h1 : ∀ y, (enc y).oneCell' = true)
    (hfit : (sn + xn) * bytes ≤ 140737488355328) (hfit2 : sn + xn ≤ 140737488355328) (hbase : base ≤ w.heap.size)
    (h : ∀ a' c' w', Own enc e w' base a' (sn + xn) c' (l1 ++ l2) → Below base w w' → (a' = none → sa = none) → w.grownBy w' (Value.slice sa sn sc).ownBlock → wpList P ops Q rest (a.put o.dst (.slice a' (sn + xn) c')) w') : wpList P ops Q (o :: rest) a w :=
  BigFrame.wpList_want hw fun _ hK => wp_appOwn ho hI hs hx hown hr h1 hfit hfit2 hbase fun a' c' w' h2 h3 h4 h5 => hK _ _ (h a' c' w' h2 h3 h4 h5)

/-- The same, as a step of a region that draws its order. -/
theorem step_appOwn {enc : α → Value} {K : Act → World → Prop} {E : Prop} (hgd : o.guard = none) {s x : Operand} {t : TypeId} (ho : o.op = .call { callee := .builtin .append, args := #[s, x], argTypes := #[t, t] })
    {base : Nat} {e : TypeId} {bytes : Nat} (hI : OneInfo P t e bytes) {sa xa : Option Addr} {sn sc xn xc : Nat} (hs : a.eval s = .slice sa sn sc) (hx : a.eval x = .slice xa xn xc)
    {l1 l2 : List α} (hown : Own enc e w base sa sn sc l1) (hr : Rd enc w xa xn xc l2) (h1 : ∀ y, (enc y).oneCell' = true)
    (hfit : (sn + xn) * bytes ≤ 140737488355328) (hfit2 : sn + xn ≤ 140737488355328) (hbase : base ≤ w.heap.size)
    (h : ∀ a' c' w', Own enc e w' base a' (sn + xn) c' (l1 ++ l2) → Below base w w' → (a' = none → sa = none) → w.grownBy w' (Value.slice sa sn sc).ownBlock → K (a.put o.dst (.slice a' (sn + xn) c')) w') :
    if Region.wanted o (yielded ops a.tmps) = true then Oper.wp P o a w K Q else E := by
  have hw : Region.wanted o (yielded ops a.tmps) = true := by simp [Region.wanted, hgd]
  rw [if_pos hw]
  exact wp_appOwn ho hI hs hx hown hr h1 hfit hfit2 hbase h

/-- make of n elements, n a variable: the call owns n zero values. -/
theorem wpList_makeOwn {enc : α → Value} (x0 : α) (hgd : o.guard = none) {l c : Operand} {t : TypeId} (hop : o.op = Op.makeSlice t l c)
    {base : Nat} {e : TypeId} {bytes : Nat} (hI : OneInfo P t e bytes) (hz0 : (P.info? e).map (fun i => i.zero) = some (some (enc x0))) (h1 : (enc x0).cells = #[enc x0])
    {kl kc : IntKind} {L C : Int} {n : Nat} (hl : a.eval l = .int kl L) (hc : a.eval c = .int kc C) (hL : L = (n : Int)) (hC : C = (n : Int)) (b2 : bytes * n ≤ 281474976710656) (b3 : n ≤ 281474976710656) (b4 : base ≤ w.heap.size)
    (h : ∀ w', Own enc e w' base (some ⟨w.heap.size, 0, none⟩) n n (List.replicate n x0) → Below base w w' → w'.heap.size = w'.heap.size → w.grownBy w' none → wpList P ops Q rest (a.put o.dst (.slice (some ⟨w.heap.size, 0, none⟩) n n)) w') : wpList P ops Q (o :: rest) a w := by
  obtain ⟨ht, i, z, hi, hz, hsize, hby, hzs⟩ := hI
  have hze : z = enc x0 := by
    rw [hi] at hz0
    simp only [Option.map_some, Option.some.injEq] at hz0
    rw [hz] at hz0
    exact Option.some.inj hz0
  subst hze
  refine wpList_make_full w hgd l c t hop base e i (enc x0) 1 ht hi hz hsize kl kc L C n hl hc hL hC (by rw [hby]; exact b2) (by unfold maxLen; omega) b4 fun w' hw hg => ?_
  rw [h1, Nat.mul_one, toList_madeCells_one] at hw
  refine h w' ⟨by simp, by rw [List.map_replicate]; exact hw⟩ ((Below.refl _ _).grown hg b4 (fun k hk => by cases hk)) rfl hg

theorem elem_of {P : Program} {t e : TypeId} (h : P.underlying t = some (.slice e)) : P.elem t = e := by simp [Program.elem, h]

theorem sizeOf_one {P : Program} {t e : TypeId} {bytes : Nat} (hI : OneInfo P t e bytes) (w : World) : (sizeOf (P.elem t)).run P w = .ok 1 w := by
  obtain ⟨ht, i, z, hi, hz, hsize, hby, hzs⟩ := hI
  rw [elem_of ht]
  simp [sizeOf, typeInfo, hi, hsize]

/-! A cut of a slice by both ends, from a place on, up to a place: it reads as the cut list; its address is not looked into. -/
theorem wp_cut {enc : α → Value} {K : Act → World → Prop} {t : TypeId} {x lo hi : Operand} (ho : o.op = .slice t x (some lo) (some hi) none)
    {e : TypeId} {bytes : Nat} (hI : OneInfo P t e bytes) {xa : Option Addr} {xn xc : Nat} (hx : a.eval x = .slice xa xn xc) {kl kh : IntKind} {il ih : Int} (hlo : a.eval lo = .int kl il) (hhi : a.eval hi = .int kh ih)
    {l : List α} (hr : Rd enc w xa xn xc l) (h0 : 0 ≤ il) (h1 : il ≤ ih) (h2 : ih ≤ xn)
    (h : ∀ a', Rd enc w a' (ih.toNat - il.toNat) (xc - il.toNat) ((l.drop il.toNat).take (ih.toNat - il.toNat)) → (∀ w', Rd enc w' xa xn xc l → Rd enc w' a' (ih.toNat - il.toNat) (xc - il.toNat) ((l.drop il.toNat).take (ih.toNat - il.toNat))) →
      K (a.put o.dst (.slice a' (ih.toNat - il.toNat) (xc - il.toNat))) w) : o.wp P a w K Q := by
  have hc : xn ≤ xc := hr.2.1
  have ht : P.underlying t = some (.slice (P.elem t)) := by rw [elem_of hI.1]; exact hI.1
  have hrun := run_slice_lh (P := P) (w := w) t xa xn xc ht kl kh il ih h0 h1 (by omega)
  rw [sizeOf_one hI] at hrun
  have hat := run_sliceAt_slice (P := P) (w := w) t (.slice xa xn xc) (some (.int kl il)) (some (.int kh ih)) none ht
  unfold Oper.wp
  simp only [execOp, ho, hx, hlo, hhi, Option.map_some, Option.map_none, Sem.run_bind, hat, hrun, Result.andThen, Sem.run_pure, sliced]
  exact h _ (hr.sliced il.toNat ih.toNat (by omega) (by omega)) (fun w' h' => h'.sliced il.toNat ih.toNat (by omega) (by omega))

theorem wpList_cut {enc : α → Value} (hgd : o.guard = none) {t : TypeId} {x lo hi : Operand} (ho : o.op = .slice t x (some lo) (some hi) none)
    {e : TypeId} {bytes : Nat} (hI : OneInfo P t e bytes) {xa : Option Addr} {xn xc : Nat} (hx : a.eval x = .slice xa xn xc) {kl kh : IntKind} {il ih : Int} (hlo : a.eval lo = .int kl il) (hhi : a.eval hi = .int kh ih)
    {l : List α} (hr : Rd enc w xa xn xc l) (h0 : 0 ≤ il) (h1 : il ≤ ih) (h2 : ih ≤ xn)
    (h : ∀ a', Rd enc w a' (ih.toNat - il.toNat) (xc - il.toNat) ((l.drop il.toNat).take (ih.toNat - il.toNat)) → (∀ w', Rd enc w' xa xn xc l → Rd enc w' a' (ih.toNat - il.toNat) (xc - il.toNat) ((l.drop il.toNat).take (ih.toNat - il.toNat))) →
      wpList P ops Q rest (a.put o.dst (.slice a' (ih.toNat - il.toNat) (xc - il.toNat))) w) : wpList P ops Q (o :: rest) a w :=
  wpList_plain hgd fun _ hK => wp_cut ho hI hx hlo hhi hr h0 h1 h2 fun a' h1' h2' => hK _ _ (h a' h1' h2')

theorem wpList_cutG {enc : α → Value} (hw : Region.wanted o (yielded ops a.tmps) = true) {t : TypeId} {x lo hi : Operand} (ho : o.op = .slice t x (some lo) (some hi) none)
    {e : TypeId} {bytes : Nat} (hI : OneInfo P t e bytes) {xa : Option Addr} {xn xc : Nat} (hx : a.eval x = .slice xa xn xc) {kl kh : IntKind} {il ih : Int} (hlo : a.eval lo = .int kl il) (hhi : a.eval hi = .int kh ih)
    {l : List α} (hr : Rd enc w xa xn xc l) (h0 : 0 ≤ il) (h1 : il ≤ ih) (h2 : ih ≤ xn)
    (h : ∀ a', Rd enc w a' (ih.toNat - il.toNat) (xc - il.toNat) ((l.drop il.toNat).take (ih.toNat - il.toNat)) → (∀ w', Rd enc w' xa xn xc l → Rd enc w' a' (ih.toNat - il.toNat) (xc - il.toNat) ((l.drop il.toNat).take (ih.toNat - il.toNat))) →
      wpList P ops Q rest (a.put o.dst (.slice a' (ih.toNat - il.toNat) (xc - il.toNat))) w) : wpList P ops Q (o :: rest) a w :=
  BigFrame.wpList_want hw fun _ hK => wp_cut ho hI hx hlo hhi hr h0 h1 h2 fun a' h1' h2' => hK _ _ (h a' h1' h2')

theorem wp_cutL {enc : α → Value} {K : Act → World → Prop} {t : TypeId} {x lo : Operand} (ho : o.op = .slice t x (some lo) none none)
    {e : TypeId} {bytes : Nat} (hI : OneInfo P t e bytes) {xa : Option Addr} {xn xc : Nat} (hx : a.eval x = .slice xa xn xc) {kl : IntKind} {il : Int} (hlo : a.eval lo = .int kl il)
    {l : List α} (hr : Rd enc w xa xn xc l) (h0 : 0 ≤ il) (h1 : il ≤ xn)
    (h : ∀ a', Rd enc w a' (xn - il.toNat) (xc - il.toNat) (l.drop il.toNat) → (∀ w', Rd enc w' xa xn xc l → Rd enc w' a' (xn - il.toNat) (xc - il.toNat) (l.drop il.toNat)) →
      K (a.put o.dst (.slice a' (xn - il.toNat) (xc - il.toNat))) w) : o.wp P a w K Q := by
  have ht : P.underlying t = some (.slice (P.elem t)) := by rw [elem_of hI.1]; exact hI.1
  have hrun := run_slice_l (P := P) (w := w) t xa xn xc ht kl il h0 h1
  rw [sizeOf_one hI] at hrun
  have hat := run_sliceAt_slice (P := P) (w := w) t (.slice xa xn xc) (some (.int kl il)) none none ht
  unfold Oper.wp
  simp only [execOp, ho, hx, hlo, Option.map_some, Option.map_none, Sem.run_bind, hat, hrun, Result.andThen, Sem.run_pure, sliced]
  have hs : ∀ w', Rd enc w' xa xn xc l → Rd enc w' (if xc = il.toNat then xa else xa.map (·.add (il.toNat * 1))) (xn - il.toNat) (xc - il.toNat) (l.drop il.toNat) := fun w' h' => by
    have hs := h'.sliced il.toNat xn (by omega) (by omega)
    rw [List.take_of_length_le (by have := h'.1; simp; omega)] at hs
    exact hs
  exact h _ (hs w hr) hs

theorem wpList_cutL {enc : α → Value} (hgd : o.guard = none) {t : TypeId} {x lo : Operand} (ho : o.op = .slice t x (some lo) none none)
    {e : TypeId} {bytes : Nat} (hI : OneInfo P t e bytes) {xa : Option Addr} {xn xc : Nat} (hx : a.eval x = .slice xa xn xc) {kl : IntKind} {il : Int} (hlo : a.eval lo = .int kl il)
    {l : List α} (hr : Rd enc w xa xn xc l) (h0 : 0 ≤ il) (h1 : il ≤ xn)
    (h : ∀ a', Rd enc w a' (xn - il.toNat) (xc - il.toNat) (l.drop il.toNat) → (∀ w', Rd enc w' xa xn xc l → Rd enc w' a' (xn - il.toNat) (xc - il.toNat) (l.drop il.toNat)) →
      wpList P ops Q rest (a.put o.dst (.slice a' (xn - il.toNat) (xc - il.toNat))) w) : wpList P ops Q (o :: rest) a w :=
  wpList_plain hgd fun _ hK => wp_cutL ho hI hx hlo hr h0 h1 fun a' h1' h2' => hK _ _ (h a' h1' h2')

theorem wpList_cutLG {enc : α → Value} (hw : Region.wanted o (yielded ops a.tmps) = true) {t : TypeId} {x lo : Operand} (ho : o.op = .slice t x (some lo) none none)
    {e : TypeId} {bytes : Nat} (hI : OneInfo P t e bytes) {xa : Option Addr} {xn xc : Nat} (hx : a.eval x = .slice xa xn xc) {kl : IntKind} {il : Int} (hlo : a.eval lo = .int kl il)
    {l : List α} (hr : Rd enc w xa xn xc l) (h0 : 0 ≤ il) (h1 : il ≤ xn)
    (h : ∀ a', Rd enc w a' (xn - il.toNat) (xc - il.toNat) (l.drop il.toNat) → (∀ w', Rd enc w' xa xn xc l → Rd enc w' a' (xn - il.toNat) (xc - il.toNat) (l.drop il.toNat)) →
      wpList P ops Q rest (a.put o.dst (.slice a' (xn - il.toNat) (xc - il.toNat))) w) : wpList P ops Q (o :: rest) a w :=
  BigFrame.wpList_want hw fun _ hK => wp_cutL ho hI hx hlo hr h0 h1 fun a' h1' h2' => hK _ _ (h a' h1' h2')

theorem wp_cutH {enc : α → Value} {K : Act → World → Prop} {t : TypeId} {x hi : Operand} (ho : o.op = .slice t x none (some hi) none)
    {e : TypeId} {bytes : Nat} (hI : OneInfo P t e bytes) {xa : Option Addr} {xn xc : Nat} (hx : a.eval x = .slice xa xn xc) {kh : IntKind} {ih : Int} (hhi : a.eval hi = .int kh ih)
    {l : List α} (hr : Rd enc w xa xn xc l) (h0 : 0 ≤ ih) (h1 : ih ≤ xn)
    (h : ∀ a', Rd enc w a' ih.toNat xc (l.take ih.toNat) → (∀ w', Rd enc w' xa xn xc l → Rd enc w' a' ih.toNat xc (l.take ih.toNat)) →
      K (a.put o.dst (.slice a' ih.toNat xc)) w) : o.wp P a w K Q := by
  have hc : xn ≤ xc := hr.2.1
  have ht : P.underlying t = some (.slice (P.elem t)) := by rw [elem_of hI.1]; exact hI.1
  have hrun := run_slice_h (P := P) (w := w) t xa xn xc ht kh ih h0 (by omega)
  rw [sizeOf_one hI] at hrun
  have hat := run_sliceAt_slice (P := P) (w := w) t (.slice xa xn xc) none (some (.int kh ih)) none ht
  unfold Oper.wp
  simp only [execOp, ho, hx, hhi, Option.map_some, Option.map_none, Sem.run_bind, hat, hrun, Result.andThen, Sem.run_pure, sliced]
  have hs : ∀ w', Rd enc w' xa xn xc l → Rd enc w' (if xc = 0 then xa else xa.map (·.add (0 * 1))) ih.toNat xc (l.take ih.toNat) := fun w' h' => by
    have hs := h'.sliced 0 ih.toNat (by omega) (by omega)
    simp only [List.drop_zero, Nat.sub_zero] at hs
    exact hs
  exact h _ (hs w hr) hs

theorem wpList_cutH {enc : α → Value} (hgd : o.guard = none) {t : TypeId} {x hi : Operand} (ho : o.op = .slice t x none (some hi) none)
    {e : TypeId} {bytes : Nat} (hI : OneInfo P t e bytes) {xa : Option Addr} {xn xc : Nat} (hx : a.eval x = .slice xa xn xc) {kh : IntKind} {ih : Int} (hhi : a.eval hi = .int kh ih)
    {l : List α} (hr : Rd enc w xa xn xc l) (h0 : 0 ≤ ih) (h1 : ih ≤ xn)
    (h : ∀ a', Rd enc w a' ih.toNat xc (l.take ih.toNat) → (∀ w', Rd enc w' xa xn xc l → Rd enc w' a' ih.toNat xc (l.take ih.toNat)) →
      wpList P ops Q rest (a.put o.dst (.slice a' ih.toNat xc)) w) : wpList P ops Q (o :: rest) a w :=
  wpList_plain hgd fun _ hK => wp_cutH ho hI hx hhi hr h0 h1 fun a' h1' h2' => hK _ _ (h a' h1' h2')

theorem wpList_cutHG {enc : α → Value} (hw : Region.wanted o (yielded ops a.tmps) = true) {t : TypeId} {x hi : Operand} (ho : o.op = .slice t x none (some hi) none)
    {e : TypeId} {bytes : Nat} (hI : OneInfo P t e bytes) {xa : Option Addr} {xn xc : Nat} (hx : a.eval x = .slice xa xn xc) {kh : IntKind} {ih : Int} (hhi : a.eval hi = .int kh ih)
    {l : List α} (hr : Rd enc w xa xn xc l) (h0 : 0 ≤ ih) (h1 : ih ≤ xn)
    (h : ∀ a', Rd enc w a' ih.toNat xc (l.take ih.toNat) → (∀ w', Rd enc w' xa xn xc l → Rd enc w' a' ih.toNat xc (l.take ih.toNat)) →
      wpList P ops Q rest (a.put o.dst (.slice a' ih.toNat xc)) w) : wpList P ops Q (o :: rest) a w :=
  BigFrame.wpList_want hw fun _ hK => wp_cutH ho hI hx hhi hr h0 h1 fun a' h1' h2' => hK _ _ (h a' h1' h2')

/-- The string of these bytes. -/
def bstr (l : List Int) : ByteArray := ⟨(l.map fun n => UInt8.ofNat n.toNat).toArray⟩

theorem bstr_fold (l : List Int) : ∀ r : ByteArray, l.foldl (fun r n => r.push (UInt8.ofNat n.toNat)) r = ⟨r.data ++ (l.map fun n => UInt8.ofNat n.toNat).toArray⟩ := by
  induction l with
  | nil => intro r; simp
  | cons c l ih =>
    intro r
    rw [List.foldl_cons, ih]
    simp [ByteArray.push]

theorem bstr_toList (l : List Int) : (bstr l).toList = l.map fun n => UInt8.ofNat n.toNat := by
  unfold bstr; rw [ByteArray.toList_mk]

theorem byte_inj {x y : Int} (hx : 0 ≤ x ∧ x ≤ 255) (hy : 0 ≤ y ∧ y ≤ 255) (h : UInt8.ofNat x.toNat = UInt8.ofNat y.toNat) : x = y := by
  have := congrArg UInt8.toNat h
  simp only [UInt8.toNat_ofNat'] at this
  omega

theorem bytes_inj : ∀ {a b : List Int}, IsB a → IsB b → (a.map fun n => UInt8.ofNat n.toNat) = (b.map fun n => UInt8.ofNat n.toNat) → a = b
  | [], [], _, _, _ => rfl
  | [], _ :: _, _, _, h => by simp at h
  | _ :: _, [], _, _, h => by simp at h
  | x :: a, y :: b, ha, hb, h => by
    simp only [List.map_cons, List.cons.injEq] at h
    rw [byte_inj (ha x List.mem_cons_self) (hb y List.mem_cons_self) h.1, bytes_inj (fun z hz => ha z (List.mem_cons_of_mem _ hz)) (fun z hz => hb z (List.mem_cons_of_mem _ hz)) h.2]

/-- Two texts of bytes are one where the lists are. -/
theorem bstr_same {a b : List Int} (ha : IsB a) (hb : IsB b) : ((bstr a).toList == (bstr b).toList) = decide (a = b) := by
  rw [bstr_toList, bstr_toList]
  by_cases h : a = b
  · subst h; simp
  · rw [decide_eq_false h, beq_eq_false_iff_ne]
    exact fun e => h (bytes_inj ha hb e)

/-- A slice of bytes turned to a string: the run. -/
theorem run_bytesStr {src dst : TypeId} {e : TypeId} (hs : P.underlying src = some (.slice e)) (he : P.underlying e = some (.int .u8)) (hd : P.underlying dst = some .string)
    {xa : Option Addr} {xn xc : Nat} {l : List Int} (hr : RdB w xa xn xc l) : (convert src dst (.slice xa xn xc)).run P w = .ok (.string (bstr l)) w := by
  rw [run_convert_bytes_string (P := P) w src dst e xa xn xc hs he hd]
  obtain ⟨_, h1, h2, h3, hn, h4⟩ := hr
  rcases h4 with h4 | ⟨b, off, rfl, hlt, hcell⟩
  · obtain rfl : l = [] := List.eq_nil_of_length_eq_zero (by omega)
    subst h4
    cases xa with
    | none => rfl
    | some ad =>
      have hl := run_loadCells_list (P := P) (w := w) ad [] (fun j v hv => by simp at hv)
      have := run_bytesToString (P := P) w ad 0 xc [] hl
      rw [this]; rfl
  · have hl := run_loadCells_list (P := P) (w := w) ⟨b, off, none⟩ (l.map (Value.int .u8)) (fun j v hv => by
      rw [List.getElem?_map] at hv
      obtain ⟨y, hy, rfl⟩ := Option.map_eq_some_iff.1 hv
      rw [addr_add]
      exact hcell j y hy)
    rw [List.length_map, h1] at hl
    have := run_bytesToString (P := P) w ⟨b, off, none⟩ xn xc l hl
    rw [this, bstr_fold]
    simp [bstr]

/-- A slice of bytes turned to a string: the step. -/
theorem wpList_bytesString (hgd : o.guard = none) {src dst : TypeId} {x : Operand} (ho : o.op = .convert src dst x)
    {e : TypeId} (hs : P.underlying src = some (.slice e)) (he : P.underlying e = some (.int .u8)) (hd : P.underlying dst = some .string)
    {xa : Option Addr} {xn xc : Nat} (hx : a.eval x = .slice xa xn xc) {l : List Int} (hr : RdB w xa xn xc l)
    (h : wpList P ops Q rest (a.put o.dst (.string (bstr l))) w) : wpList P ops Q (o :: rest) a w := by
  have hc := run_bytesStr (P := P) (w := w) hs he hd hr
  refine wpList_plain hgd fun K hK => ?_
  unfold Oper.wp
  simp only [execOp, ho, hx, Sem.run_bind, hc, Result.andThen, Sem.run_pure]
  exact hK _ _ h
end

/-- A constant text turned to bytes: its block bears a mark. -/
theorem RdB.marked (w : World) (l : List Int) (e : TypeId) (fr : Nat × Nat) (cs : Array Value) (n c : Nat) (hcs : cs = (l.map (Value.int .u8)).toArray) (hn : l.length = n) (hc : n ≤ c) (hm : c ≤ maxLen) (hb : IsB l) : RdB (w.alloc (.cells cs e fr)) (some ⟨w.heap.size, 0, none⟩) n c l := by
  subst hcs
  refine ⟨hb, hn, hc, hm, fun h => by (cases h), .inr ⟨w.heap.size, 0, rfl, by simp, fun i x hx => ?_⟩⟩
  rw [Nat.zero_add, World.cell?_alloc_mark]
  simp [hx]

theorem cellAt {α : Type} {enc : α → Value} {w : World} {a : Option Addr} {len cap : Nat} {l : List α} (h : Rd enc w a len cap l) (i : Nat) (hi : i < l.length) : ∃ b off, a = some ⟨b, off, none⟩ ∧ w.cell? ⟨b, off + i, none⟩ = some (enc l[i]) := by
  obtain ⟨b, off, ha, _, hc⟩ := h.at (by have := h.1; omega)
  exact ⟨b, off, ha, hc i _ (List.getElem?_eq_getElem hi)⟩

/-! ### A struct of the call's own: its block known whole -/
theorem cell_of_heap {w : World} {S : Nat} {cs : Array Value} {T : TypeId} (h : w.heap[S]? = some (.cells cs T (0, 0))) (j : Nat) (v : Value) (hj : cs[j]? = some v) : w.cell? ⟨S, j, none⟩ = some v := by
  rw [cell_of_row w S j cs T (0, 0) h, hj]
theorem free_of_heap {w : World} {S : Nat} {cs : Array Value} {T : TypeId} (h : w.heap[S]? = some (.cells cs T (0, 0))) (j : Nat) : w.frozen? ⟨S, j, none⟩ = false := frozen_of_row w S j cs T h
theorem lt_of_heap {w : World} {S : Nat} {o : Obj} (h : w.heap[S]? = some o) : S < w.heap.size := (Array.getElem?_eq_some_iff.1 h).1

theorem keep_set {w : World} {S T i j : Nat} {u v : Value} (hne : i ≠ j) (h : w.cell? ⟨S, i, none⟩ = some v) : (w.setCell ⟨T, j, none⟩ u).cell? ⟨S, i, none⟩ = some v := by
  have hn : (⟨T, j, none⟩ : Addr) ≠ ⟨S, i, none⟩ := fun e => hne (by cases e; rfl)
  exact (World.cell?_setCell_other w ⟨T, j, none⟩ ⟨S, i, none⟩ u hn).trans h

theorem grown_refl (w : World) (r : Option Nat) : w.grownBy w r := ⟨rfl, rfl, rfl, Nat.le_refl _, fun _ _ _ => rfl⟩
theorem grown_trans {a b c : World} {r : Option Nat} (h : a.grownBy b r) (k : b.grownBy c r) : a.grownBy c r :=
  ⟨k.os.trans h.os, k.tape.trans h.tape, k.output.trans h.output, Nat.le_trans h.size k.size, fun i hi hr => (k.block i (Nat.lt_of_lt_of_le hi h.size) hr).trans (h.block i hi hr)⟩
theorem grown_setCell (w : World) (S j : Nat) (v : Value) : w.grownBy (w.setCell ⟨S, j, none⟩ v) (some S) :=
  ⟨rfl, rfl, rfl, by simp, fun k _ hr => heap_setCell_other w ⟨S, j, none⟩ k v (fun e => hr (by simp [e]))⟩
theorem grown_drew {a b : World} {r : Option Nat} (h : a.grownBy b r) : a.grownBy b.drew r := ⟨h.os, h.tape, h.output, h.size, h.block⟩
theorem grown_drewN {a b : World} {r : Option Nat} (h : a.grownBy b r) (n : Nat) : a.grownBy (b.drewN n) r := ⟨h.os, h.tape, h.output, h.size, h.block⟩
theorem grown_below {a b : World} (r : Option Nat) (h : Below a.heap.size a b) : a.grownBy b r := ⟨h.os, h.tape, h.output, h.size, fun k hk _ => h.block k hk⟩
theorem below_grown {a b : World} {S B : Nat} (h : a.grownBy b (some S)) (hB : B ≤ S) (hs : B ≤ a.heap.size) : Below B a b := (Below.refl _ _).grown h hs (fun k hk => by cases hk; exact hB)

section
variable {α : Type}
theorem Rd.grown {enc : α → Value} {w w' : World} {a : Option Addr} {len cap : Nat} {l : List α} {r : Option Nat} (h : Rd enc w a len cap l) (hg : w.grownBy w' r) (hne : ∀ x, a = some x → some x.block ≠ r) : Rd enc w' a len cap l := by
  obtain ⟨h1, h2, h3, hn, h4⟩ := h
  refine ⟨h1, h2, h3, hn, ?_⟩
  rcases h4 with h4 | ⟨b, off, rfl, hlt, hc⟩
  · exact .inl h4
  · exact .inr ⟨b, off, rfl, Nat.lt_of_lt_of_le hlt hg.size, hc.mono (hg.block b hlt (hne _ rfl))⟩
theorem Own.grown {enc : α → Value} {e : TypeId} {w w' : World} {base : Nat} {a : Option Addr} {len cap : Nat} {l : List α} {r : Option Nat} (h : Own enc e w base a len cap l) (hg : w.grownBy w' r) (hne : ∀ x, a = some x → some x.block ≠ r) : Own enc e w' base a len cap l := by
  obtain ⟨hl, h1, h2⟩ := h
  refine ⟨hl, h1, ?_⟩
  rcases h2 with h2 | ⟨g, c, cur, hv, hbg, hg', rest⟩
  · exact .inl h2
  · cases hv
    exact .inr ⟨g, _, cur, rfl, hbg, by rw [hg.block g (Array.getElem?_eq_some_iff.1 hg').1 (hne _ rfl)]; exact hg', rest⟩
end
theorem RdB.grown {w w' : World} {a : Option Addr} {len cap : Nat} {l : List Int} {r : Option Nat} (h : RdB w a len cap l) (hg : w.grownBy w' r) (hne : ∀ x, a = some x → some x.block ≠ r) : RdB w' a len cap l := ⟨h.1, h.2.grown hg hne⟩

/-! ### What came in -/
theorem rdB_open {H : Type} {enc : TypeId × Value → H} {P : Program} {w : World} {base : Nat} {spare : Nat → Bool} {held : Bool} {fuel : Nat} {t e : TypeId} {x : DataW H × List MemPlace} {a : Option Addr} {len cap : Nat}
    (ht : P.underlying t = some (.slice e)) (he : P.underlying e = some (.int .u8)) (hc : P.cellsOf e = 1) (h : DataW.trod enc P w base spare held fuel t (Value.slice a len cap).cells.toList = some x) : ∃ l, RdB w a len cap l := by
  rcases open_ints ht he hc h with ⟨hcs, _⟩ | ⟨ad, l, c, zs, hcs, _, hl, hm, hz, _, hcell, hwz⟩
  · simp [Value.cells] at hcs
    obtain ⟨rfl, rfl, rfl⟩ := hcs
    exact ⟨[], IsB.nil, rfl, Nat.le_refl _, Nat.zero_le _, fun _ => rfl, .inl rfl⟩
  · simp [Value.cells] at hcs
    obtain ⟨rfl, rfl, rfl⟩ := hcs
    have hzl : len ≤ zs.length := by rw [hz]; split <;> omega
    refine ⟨zs.take len, fun y hy => bounds_u8 (hwz y (List.mem_of_mem_take hy)), by simp; omega, hl, hm, fun h => by (cases h), ?_⟩
    by_cases h0 : len = 0
    · exact .inl h0
    · right
      obtain ⟨b, off, spot⟩ := ad
      have hc0 := hcell 0 (by omega)
      have hspot : spot = none := by simpa [Addr.add] using World.cell?_spot hc0
      subst hspot
      refine ⟨b, off, rfl, World.block_lt_of_cell? w _ hc0, fun i y hy => ?_⟩
      rw [List.getElem?_take] at hy
      split at hy
      · have hi := (List.getElem?_eq_some_iff.1 hy).1
        have := hcell i hi
        rw [addr_add, List.getD_eq_getElem?_getD, hy] at this
        exact this
      · cases hy

theorem rdI_open {H : Type} {enc : TypeId × Value → H} {P : Program} {w : World} {base : Nat} {spare : Nat → Bool} {held : Bool} {fuel : Nat} {t e : TypeId} {k : IntKind} {x : DataW H × List MemPlace} {a : Option Addr} {len cap : Nat}
    (ht : P.underlying t = some (.slice e)) (he : P.underlying e = some (.int k)) (hc : P.cellsOf e = 1) (h : DataW.trod enc P w base spare held fuel t (Value.slice a len cap).cells.toList = some x) :
    ∃ l : List Int, (∀ y ∈ l, (Lit.int k y).wf = true) ∧ Rd (Value.int k) w a len cap l := by
  rcases open_ints ht he hc h with ⟨hcs, _⟩ | ⟨ad, l, c, zs, hcs, _, hl, hm, hz, _, hcell, hwz⟩
  · simp [Value.cells] at hcs
    obtain ⟨rfl, rfl, rfl⟩ := hcs
    exact ⟨[], fun y hy => by (cases hy), rfl, Nat.le_refl _, Nat.zero_le _, fun _ => rfl, .inl rfl⟩
  · simp [Value.cells] at hcs
    obtain ⟨rfl, rfl, rfl⟩ := hcs
    have hzl : len ≤ zs.length := by rw [hz]; split <;> omega
    refine ⟨zs.take len, fun y hy => hwz y (List.mem_of_mem_take hy), by simp; omega, hl, hm, fun h => by (cases h), ?_⟩
    by_cases h0 : len = 0
    · exact .inl h0
    · right
      obtain ⟨b, off, spot⟩ := ad
      have hc0 := hcell 0 (by omega)
      have hspot : spot = none := by simpa [Addr.add] using World.cell?_spot hc0
      subst hspot
      refine ⟨b, off, rfl, World.block_lt_of_cell? w _ hc0, fun i y hy => ?_⟩
      rw [List.getElem?_take] at hy
      split at hy
      · have hi := (List.getElem?_eq_some_iff.1 hy).1
        have := hcell i hi
        rw [addr_add, List.getD_eq_getElem?_getD, hy] at this
        exact this
      · cases hy

end Go.Proofs.Ytpkmdnfkeebgbaa

/- Worlds that differ in named blocks alone, and what reads the same behind it. No program in sight; no condition. -/
namespace Go.Proofs.Ytpkmdnfkeebgbaa
open Go.ChangeShapes Go.WideShapes Go.ChangeAt Go.RowKit
set_option linter.unusedVariables false

/-- Of the blocks of w those in F alone may have turned. -/
structure Upd (F : Nat → Prop) (w w' : World) : Prop where
  os : w'.os = w.os
  tape : w'.tape = w.tape
  output : w'.output = w.output
  size : w.heap.size ≤ w'.heap.size
  block : ∀ k, k < w.heap.size → ¬ F k → w'.heap[k]? = w.heap[k]?

theorem Upd.refl (F : Nat → Prop) (w : World) : Upd F w w := ⟨rfl, rfl, rfl, Nat.le_refl _, fun _ _ _ => rfl⟩
theorem Upd.mono {F G : Nat → Prop} {w w' : World} (h : Upd F w w') (hg : ∀ k, k < w.heap.size → F k → G k) : Upd G w w' :=
  ⟨h.os, h.tape, h.output, h.size, fun k hk hn => h.block k hk (fun hf => hn (hg k hk hf))⟩
theorem Upd.trans {F G : Nat → Prop} {a b c : World} (h : Upd F a b) (k : Upd G b c) (hg : ∀ j, j < a.heap.size → G j → F j) : Upd F a c :=
  ⟨k.os.trans h.os, k.tape.trans h.tape, k.output.trans h.output, Nat.le_trans h.size k.size, fun i hi hn => (k.block i (Nat.lt_of_lt_of_le hi h.size) (fun hG => hn (hg i hi hG))).trans (h.block i hi hn)⟩
theorem Upd.ofBelow {F : Nat → Prop} {w w' : World} (h : Below w.heap.size w w') : Upd F w w' := ⟨h.os, h.tape, h.output, h.size, fun k hk _ => h.block k hk⟩
theorem Upd.below {F : Nat → Prop} {B : Nat} {w w' : World} (h : Upd F w w') (hB : B ≤ w.heap.size) (hf : ∀ k, F k → B ≤ k) : Below B w w' :=
  ⟨h.os, h.tape, h.output, h.size, fun k hk => h.block k (by omega) (fun hF => by have := hf k hF; omega)⟩
theorem Upd.grown {F : Nat → Prop} {w w' : World} {r : Option Nat} (h : w.grownBy w' r) (hf : ∀ k, r = some k → F k) : Upd F w w' :=
  ⟨h.os, h.tape, h.output, h.size, fun k hk hn => h.block k hk (fun e => hn (hf k e.symm))⟩
theorem Upd.setCell {F : Nat → Prop} (w : World) (p : Addr) (v : Value) (hf : F p.block) : Upd F w (w.setCell p v) :=
  ⟨rfl, rfl, rfl, by simp, fun k hk hn => heap_setCell_other w p k v (fun e => hn (by rw [e]; exact hf))⟩
theorem Upd.drewN {F : Nat → Prop} {w w' : World} (h : Upd F w w') (n : Nat) : Upd F w (w'.drewN n) := ⟨h.os, h.tape, h.output, h.size, h.block⟩
theorem Upd.drew {F : Nat → Prop} {w w' : World} (h : Upd F w w') : Upd F w w'.drew := ⟨h.os, h.tape, h.output, h.size, h.block⟩
theorem Upd.alloc {F : Nat → Prop} {w w' : World} (h : Upd F w w') (o : Obj) : Upd F w (w'.alloc o) :=
  h.trans (G := fun _ => False) (Upd.ofBelow ((Below.refl _ _).alloc (Nat.le_refl _) o)) (fun _ _ h => h.elim)

theorem Upd.cell {F : Nat → Prop} {w w' : World} (h : Upd F w w') {p : Addr} {v : Value} (hc : w.cell? p = some v) (hf : ¬ F p.block) : w'.cell? p = some v :=
  (World.cell?_of_block (w := w) (h.block p.block (World.block_lt_of_cell? w p hc) hf)).trans hc
theorem Upd.frozen {F : Nat → Prop} {w w' : World} (h : Upd F w w') {p : Addr} (hlt : p.block < w.heap.size) (hf : ¬ F p.block) : w'.frozen? p = w.frozen? p :=
  World.frozen?_of_block (w := w) (h.block p.block hlt hf)

section
variable {α : Type}
theorem Rd.upd {enc : α → Value} {F : Nat → Prop} {w w' : World} {a : Option Addr} {len cap : Nat} {l : List α} (h : Rd enc w a len cap l) (hu : Upd F w w') (hf : ∀ x, a = some x → ¬ F x.block) : Rd enc w' a len cap l := by
  obtain ⟨h1, h2, h3, hn, h4⟩ := h
  refine ⟨h1, h2, h3, hn, ?_⟩
  rcases h4 with h4 | ⟨b, off, rfl, hlt, hc⟩
  · exact .inl h4
  · exact .inr ⟨b, off, rfl, Nat.lt_of_lt_of_le hlt hu.size, hc.mono (hu.block b hlt (hf _ rfl))⟩
theorem Own.upd {enc : α → Value} {e : TypeId} {F : Nat → Prop} {w w' : World} {base : Nat} {a : Option Addr} {len cap : Nat} {l : List α} (h : Own enc e w base a len cap l) (hu : Upd F w w') (hf : ∀ x, a = some x → ¬ F x.block) : Own enc e w' base a len cap l := by
  obtain ⟨hl, h1, h2⟩ := h
  refine ⟨hl, h1, ?_⟩
  rcases h2 with h2 | ⟨g, c, cur, hv, hbg, hg', rest⟩
  · exact .inl h2
  · cases hv
    exact .inr ⟨g, _, cur, rfl, hbg, by rw [hu.block g (Array.getElem?_eq_some_iff.1 hg').1 (hf _ rfl)]; exact hg', rest⟩
/-- An owned slice lies where its block is. -/
theorem Own.lt {enc : α → Value} {e : TypeId} {w : World} {base : Nat} {a : Option Addr} {len cap : Nat} {l : List α} (h : Own enc e w base a len cap l) : ∀ x, a = some x → base ≤ x.block ∧ x.block < w.heap.size := by
  rintro x rfl
  obtain ⟨hl, h1, h2⟩ := h
  rcases h2 with ⟨h2, _⟩ | ⟨g, c, cur, hv, hbg, hg, rest⟩
  · cases h2
  · cases hv; exact ⟨hbg, (Array.getElem?_eq_some_iff.1 hg).1⟩
end
theorem RdB.upd {F : Nat → Prop} {w w' : World} {a : Option Addr} {len cap : Nat} {l : List Int} (h : RdB w a len cap l) (hu : Upd F w w') (hf : ∀ x, a = some x → ¬ F x.block) : RdB w' a len cap l := ⟨h.1, h.2.upd hu hf⟩
theorem OwnB.upd {e : TypeId} {F : Nat → Prop} {w w' : World} {base : Nat} {a : Option Addr} {len cap : Nat} {l : List Int} (h : OwnB e w base a len cap l) (hu : Upd F w w') (hf : ∀ x, a = some x → ¬ F x.block) : OwnB e w' base a len cap l := ⟨h.1, h.2.upd hu hf⟩

/-- The block of a slice. -/
def blk (a : Option Addr) : List Nat := match a with | none => [] | some x => [x.block]
theorem mem_blk {a : Option Addr} {k : Nat} : k ∈ blk a ↔ ∃ x, a = some x ∧ x.block = k := by
  cases a with
  | none => simp [blk]
  | some x => simp [blk]; exact ⟨fun h => h.symm, fun h => h.symm⟩

section
variable {α : Type} {P : Program} {w : World} {ops : Array Oper} {rest : List Oper} {o : Oper} {a : Act} {Q : Exit → Act → World → Prop}
/-- append to what the call owns, and where the answer lies: in the old block or in a new one. -/
theorem wp_appAt {enc : α → Value} {K : Act → World → Prop} {s x : Operand} {t : TypeId} (ho : o.op = .call { callee := .builtin .append, args := #[s, x], argTypes := #[t, t] })
    {base : Nat} {e : TypeId} {bytes : Nat} (hI : OneInfo P t e bytes) {sa xa : Option Addr} {sn sc xn xc : Nat} (hs : a.eval s = .slice sa sn sc) (hx : a.eval x = .slice xa xn xc)
    {l1 l2 : List α} (hown : Own enc e w base sa sn sc l1) (hr : Rd enc w xa xn xc l2) (h1 : ∀ y, (enc y).oneCell' = true)
    (hfit : (sn + xn) * bytes ≤ 140737488355328) (hfit2 : sn + xn ≤ 140737488355328) (hbase : base ≤ w.heap.size)
    (h : ∀ a' c' w', Own enc e w' base a' (sn + xn) c' (l1 ++ l2) → Upd (· ∈ blk sa) w w' → (∀ k ∈ blk a', k ∈ blk sa ∨ w.heap.size ≤ k) → K (a.put o.dst (.slice a' (sn + xn) c')) w') : o.wp P a w K Q := by
  obtain ⟨ht, i, z, hi, hz, hsize, hby, hzs⟩ := hI
  obtain ⟨hl1, how⟩ := hown
  obtain ⟨hl2, hc1, hc2, hcn, hcells⟩ := hr
  have hsrc : (xa = none ∧ xn = 0 ∧ xc = 0) ∨ ∃ ad, xa = some ad ∧ ∀ j y, l2[j]? = some y → w.cell? (ad.add j) = some (enc y) := by
    rcases hcells with h0 | ⟨b, off, rfl, hbk, hc⟩
    · cases xa with
      | none => exact .inl ⟨rfl, h0, hcn rfl⟩
      | some ad =>
        refine .inr ⟨ad, rfl, fun j y hy => ?_⟩
        obtain rfl : l2 = [] := List.eq_nil_of_length_eq_zero (by omega)
        simp at hy
    · exact .inr ⟨_, rfl, fun j y hy => by rw [addr_add]; exact hc j y hy⟩
  rcases hsrc with ⟨rfl, rfl, rfl⟩ | ⟨ad, rfl, hc⟩
  · obtain rfl : l2 = [] := List.eq_nil_of_length_eq_zero hl2
    have hrun := run_append_owned_none (P := P) (w := w) base t o.type e i 1 ht hi _ sn _ how
    have := h sa sc w ⟨by simpa using hl1, by simpa using how⟩ (Upd.refl _ _) (fun k hk => .inl hk)
    unfold Oper.wp
    simp [execOp, ho, resolve, invoke, builtin, hs, hx, hrun, Result.andThen]
    exact this
  · obtain ⟨v', w', hrun, hv', hg, hn, hat⟩ := run_append_own_at (P := P) w base t o.type e i z 1 bytes ht hi hz hsize hby hzs (by decide) _ sn _ how ad xn xc (l2.map enc) (by simpa using hl2) (fun j u hu => by
      rw [List.getElem?_map] at hu
      obtain ⟨y, hy, rfl⟩ := Option.map_eq_some_iff.1 hu
      exact hc j y hy) (fun u hu => by
      obtain ⟨y, _, rfl⟩ := List.mem_map.1 hu
      exact h1 y) (by unfold maxLen; omega) hfit hbase
    have hu : Upd (· ∈ blk sa) w w' := Upd.grown hg (fun k hk => by
      cases sa with
      | none => cases hk
      | some ad' => cases hk; exact List.mem_singleton.2 rfl)
    have hwp : ∀ a' c', v' = .slice a' (sn + xn) c' → o.wp P a w K Q := by
      intro a' c' hv
      subst hv
      have := h a' c' w' ⟨by simp; omega, by rw [← List.map_append] at hv'; exact hv'⟩ hu (fun k hk => by
        obtain ⟨y, rfl, rfl⟩ := mem_blk.1 hk
        rcases hat with hat | hat
        · left
          cases sa with
          | none => cases hat
          | some ad' => simp only [Value.ownBlock, Option.some.injEq] at hat; exact mem_blk.2 ⟨ad', rfl, hat.symm⟩
        · right
          simp only [Value.ownBlock, Option.some.injEq] at hat
          omega)
      unfold Oper.wp
      simp only [execOp, ho, resolve, invoke, builtin, Sem.run_bind, Sem.run_pure, Result.andThen_ok, List.map_toArray, List.map_cons, List.map_nil, hs, hx, hrun]
      exact this
    rcases hv'.2 with ⟨hv, h0⟩ | ⟨g', cap', cur, hv, rest'⟩
    · exact hwp none 0 (by rw [hv, h0])
    · exact hwp _ cap' hv

theorem wpList_appAt {enc : α → Value} (hgd : o.guard = none) {s x : Operand} {t : TypeId} (ho : o.op = .call { callee := .builtin .append, args := #[s, x], argTypes := #[t, t] })
    {base : Nat} {e : TypeId} {bytes : Nat} (hI : OneInfo P t e bytes) {sa xa : Option Addr} {sn sc xn xc : Nat} (hs : a.eval s = .slice sa sn sc) (hx : a.eval x = .slice xa xn xc)
    {l1 l2 : List α} (hown : Own enc e w base sa sn sc l1) (hr : Rd enc w xa xn xc l2) (h1 : ∀ y, (enc y).oneCell' = true)
    (hfit : (sn + xn) * bytes ≤ 140737488355328) (hfit2 : sn + xn ≤ 140737488355328) (hbase : base ≤ w.heap.size)
    (h : ∀ a' c' w', Own enc e w' base a' (sn + xn) c' (l1 ++ l2) → Upd (· ∈ blk sa) w w' → (∀ k ∈ blk a', k ∈ blk sa ∨ w.heap.size ≤ k) → wpList P ops Q rest (a.put o.dst (.slice a' (sn + xn) c')) w') : wpList P ops Q (o :: rest) a w :=
  wpList_plain hgd fun _ hK => wp_appAt ho hI hs hx hown hr h1 hfit hfit2 hbase fun a' c' w' h2 h3 h4 => hK _ _ (h a' c' w' h2 h3 h4)

/-- The same, as a step of a region that draws its order. -/
theorem step_appAt {enc : α → Value} {K : Act → World → Prop} {E : Prop} (hgd : o.guard = none) {s x : Operand} {t : TypeId} (ho : o.op = .call { callee := .builtin .append, args := #[s, x], argTypes := #[t, t] })
    {base : Nat} {e : TypeId} {bytes : Nat} (hI : OneInfo P t e bytes) {sa xa : Option Addr} {sn sc xn xc : Nat} (hs : a.eval s = .slice sa sn sc) (hx : a.eval x = .slice xa xn xc)
    {l1 l2 : List α} (hown : Own enc e w base sa sn sc l1) (hr : Rd enc w xa xn xc l2) (h1 : ∀ y, (enc y).oneCell' = true)
    (hfit : (sn + xn) * bytes ≤ 140737488355328) (hfit2 : sn + xn ≤ 140737488355328) (hbase : base ≤ w.heap.size)
    (h : ∀ a' c' w', Own enc e w' base a' (sn + xn) c' (l1 ++ l2) → Upd (· ∈ blk sa) w w' → (∀ k ∈ blk a', k ∈ blk sa ∨ w.heap.size ≤ k) → K (a.put o.dst (.slice a' (sn + xn) c')) w') :
    if Region.wanted o (yielded ops a.tmps) = true then Oper.wp P o a w K Q else E := by
  have hw : Region.wanted o (yielded ops a.tmps) = true := by simp [Region.wanted, hgd]
  rw [if_pos hw]
  exact wp_appAt ho hI hs hx hown hr h1 hfit hfit2 hbase h
end

theorem below_drew (w : World) : Below w.heap.size w w.drew := ⟨rfl, rfl, rfl, Nat.le_refl _, fun _ _ => rfl⟩
theorem RdB.drewd {w : World} {a : Option Addr} {len cap : Nat} {l : List Int} (h : RdB w a len cap l) : RdB w.drew a len cap l := h.mono (below_drew w)
/-- What was there is there behind new blocks. -/
theorem bcell {B : Nat} {W w1 : World} (hb : Below B W w1) {b o : Nat} {v : Value} (hlt : b < B) (h : W.cell? ⟨b, o, none⟩ = some v) : w1.cell? ⟨b, o, none⟩ = some v := (hb.cell (p := ⟨b, o, none⟩) hlt).trans h
theorem bfree {B : Nat} {W w1 : World} (hb : Below B W w1) {b o : Nat} {v : Bool} (hlt : b < B) (h : W.frozen? ⟨b, o, none⟩ = v) : w1.frozen? ⟨b, o, none⟩ = v := (hb.frozen (p := ⟨b, o, none⟩) hlt).trans h
theorem ucell {F : Nat → Prop} {W w1 : World} (hb : Upd F W w1) {b o : Nat} {v : Value} (hn : ¬ F b) (h : W.cell? ⟨b, o, none⟩ = some v) : w1.cell? ⟨b, o, none⟩ = some v := hb.cell (p := ⟨b, o, none⟩) h hn
theorem ufree {F : Nat → Prop} {W w1 : World} (hb : Upd F W w1) {b o : Nat} {v : Bool} (hlt : b < W.heap.size) (hn : ¬ F b) (h : W.frozen? ⟨b, o, none⟩ = v) : w1.frozen? ⟨b, o, none⟩ = v := (hb.frozen (p := ⟨b, o, none⟩) hlt hn).trans h
theorem below_alloc (w : World) (o : Obj) : Below w.heap.size w (w.alloc o) := (Below.refl _ _).alloc (Nat.le_refl _) o

end Go.Proofs.Ytpkmdnfkeebgbaa

/- Slices of structs of so many cells each: what the call owns, what reads, append of one or of many. No program in sight; no condition. -/
namespace Go.Proofs.Ytpkmdnfkeebgbaa
open Go.ChangeShapes Go.WideShapes Go.ChangeAt Go.RowKit
set_option linter.unusedVariables false
set_option linter.unusedSimpArgs false

/-- An element's cells: so many, each of one cell. -/
structure EncK {α : Type} (enc : α → List Value) (k : Nat) : Prop where
  len : ∀ x, (enc x).length = k
  one : ∀ x, ∀ v ∈ enc x, v.oneCell' = true
  pos : 0 < k
section
variable {α : Type} {enc : α → List Value} {k : Nat}
def flatK (enc : α → List Value) (l : List α) : List Value := l.flatMap enc
theorem flatK_length (hE : EncK enc k) (l : List α) : (flatK enc l).length = l.length * k := by
  induction l with
  | nil => simp [flatK]
  | cons x t ih => simp only [flatK, List.flatMap_cons, List.length_append, List.length_cons] at ih ⊢; rw [ih, hE.len, Nat.succ_mul, Nat.add_comm]
theorem flatK_append (a b : List α) : flatK enc (a ++ b) = flatK enc a ++ flatK enc b := List.flatMap_append
theorem flatK_get (hE : EncK enc k) (l : List α) (i : Nat) (x : α) (h : l[i]? = some x) (j : Nat) (v : Value) (hv : (enc x)[j]? = some v) : (flatK enc l)[i * k + j]? = some v := by
  induction l generalizing i with
  | nil => simp at h
  | cons q t ih =>
    have e : flatK enc (q :: t) = enc q ++ flatK enc t := rfl
    cases i with
    | zero =>
      simp only [List.getElem?_cons_zero, Option.some.injEq] at h; subst h
      rw [e, Nat.zero_mul, Nat.zero_add, List.getElem?_append_left ((List.getElem?_eq_some_iff.1 hv).1)]; exact hv
    | succ i =>
      have := ih i (by simpa using h)
      rw [e, List.getElem?_append_right (by rw [hE.len, Nat.succ_mul]; omega), hE.len, show (i + 1) * k + j - k = i * k + j by rw [Nat.succ_mul]; omega]
      exact this
theorem flatK_one (hE : EncK enc k) (l : List α) : ∀ v ∈ flatK enc l, v.oneCell' = true := by
  intro v hv
  obtain ⟨x, _, hx⟩ := List.mem_flatMap.1 hv
  exact hE.one x v hx
theorem flatK_set (hE : EncK enc k) (l : List α) (i : Nat) (x : α) (h : i < l.length) : flatK enc (l.set i x) = (flatK enc l).take (i * k) ++ (enc x ++ (flatK enc l).drop (i * k + k)) := by
  induction l generalizing i with
  | nil => simp at h
  | cons q t ih =>
    have e : flatK enc (q :: t) = enc q ++ flatK enc t := rfl
    cases i with
    | zero =>
      rw [List.set_cons_zero, e, Nat.zero_mul, Nat.zero_add, List.take_zero, List.nil_append, List.drop_append_of_le_length (by rw [hE.len]; omega), List.drop_of_length_le (by rw [hE.len]; omega)]
      rfl
    | succ i =>
      rw [List.set_cons_succ, show flatK enc (q :: t.set i x) = enc q ++ flatK enc (t.set i x) from rfl, ih i (by simpa using h), e]
      have h1 : (i + 1) * k = (enc q).length + i * k := by rw [hE.len, Nat.succ_mul, Nat.add_comm]
      rw [h1, List.take_length_add_append, Nat.add_assoc, List.drop_length_add_append, List.append_assoc]

def CellsK (enc : α → List Value) (k : Nat) (w : World) (b off : Nat) (l : List α) : Prop := ∀ i x, l[i]? = some x → ∀ j v, (enc x)[j]? = some v → w.cell? ⟨b, off + (i * k + j), none⟩ = some v
/-- A slice reads as these elements. -/
def RdK (enc : α → List Value) (k : Nat) (w : World) (a : Option Addr) (n c : Nat) (l : List α) : Prop :=
  l.length = n ∧ n ≤ c ∧ c ≤ maxLen ∧ (a = none → c = 0) ∧ (n = 0 ∨ ∃ b off, a = some ⟨b, off, none⟩ ∧ b < w.heap.size ∧ CellsK enc k w b off l)
def OwnK (enc : α → List Value) (k : Nat) (e : TypeId) (w : World) (base : Nat) (a : Option Addr) (n c : Nat) (l : List α) : Prop := l.length = n ∧ w.ownsRow base e k (.slice a n c) n (flatK enc l)

theorem OwnK.nil (enc : α → List Value) (k : Nat) (e : TypeId) (w : World) (base : Nat) : OwnK enc k e w base none 0 0 [] := ⟨rfl, World.ownsRow_nil _ _ _ _⟩
theorem OwnK.lt {e : TypeId} {w : World} {base : Nat} {a : Option Addr} {n c : Nat} {l : List α} (h : OwnK enc k e w base a n c l) : ∀ x, a = some x → base ≤ x.block ∧ x.block < w.heap.size := fun x hx => h.2.lt _ (by subst hx; rfl)
theorem OwnK.rd (hE : EncK enc k) {e : TypeId} {w : World} {base : Nat} {a : Option Addr} {n c : Nat} {l : List α} (h : OwnK enc k e w base a n c l) : RdK enc k w a n c l := by
  obtain ⟨hl, h⟩ := h
  have hlt := h.lt
  rcases h.2 with ⟨h', h0⟩ | ⟨g', cap', cur, h', hb, hg, h1, h2, h3, h4⟩
  · cases h'
    exact ⟨hl, by omega, by unfold maxLen; omega, fun _ => rfl, .inl h0⟩
  · cases h'
    refine ⟨hl, h1, h2, fun h => (by cases h), .inr ⟨g', 0, rfl, (hlt g' rfl).2, fun i p hp j v hv => ?_⟩⟩
    have c1 := h.cells (g := g') rfl _ _ (flatK_get hE l i p hp j v hv)
    rw [addr_add] at c1
    exact c1
theorem RdK.below {w w' : World} {a : Option Addr} {n c : Nat} {l : List α} (h : RdK enc k w a n c l) (hb : Below w.heap.size w w') : RdK enc k w' a n c l := by
  obtain ⟨h1, h2, h3, h4, h5⟩ := h
  refine ⟨h1, h2, h3, h4, ?_⟩
  rcases h5 with h5 | ⟨b, off, rfl, hlt, hc⟩
  · exact .inl h5
  · exact .inr ⟨b, off, rfl, Nat.lt_of_lt_of_le hlt hb.size, fun i p hp j v hv => bcell hb hlt (hc i p hp j v hv)⟩
theorem RdK.upd {F : Nat → Prop} {w w' : World} {a : Option Addr} {n c : Nat} {l : List α} (h : RdK enc k w a n c l) (hu : Upd F w w') (hf : ∀ x, a = some x → ¬ F x.block) : RdK enc k w' a n c l := by
  obtain ⟨h1, h2, h3, h4, h5⟩ := h
  refine ⟨h1, h2, h3, h4, ?_⟩
  rcases h5 with h5 | ⟨b, off, rfl, hlt, hc⟩
  · exact .inl h5
  · exact .inr ⟨b, off, rfl, Nat.lt_of_lt_of_le hlt hu.size, fun i p hp j v hv => ucell hu (hf _ rfl) (hc i p hp j v hv)⟩
theorem RdK.at {w : World} {a : Option Addr} {n c : Nat} {l : List α} (h : RdK enc k w a n c l) (hp : 0 < n) : ∃ b off, a = some ⟨b, off, none⟩ ∧ b < w.heap.size ∧ CellsK enc k w b off l := h.2.2.2.2.resolve_left (by omega)
theorem OwnK.mono {e : TypeId} {w w' : World} {base : Nat} {a : Option Addr} {n c : Nat} {l : List α} (h : OwnK enc k e w base a n c l) (hb : Below w.heap.size w w') : OwnK enc k e w' base a n c l := by
  refine ⟨h.1, h.2.1, ?_⟩
  rcases h.2.2 with h1 | ⟨g, cap, cur, h', hbg, hg, r⟩
  · exact .inl h1
  · exact .inr ⟨g, cap, cur, h', hbg, by rw [hb.block g (Array.getElem?_eq_some_iff.1 hg).1]; exact hg, r⟩
theorem OwnK.upd {F : Nat → Prop} {e : TypeId} {w w' : World} {base : Nat} {a : Option Addr} {n c : Nat} {l : List α} (h : OwnK enc k e w base a n c l) (hu : Upd F w w') (hf : ∀ x, a = some x → ¬ F x.block) : OwnK enc k e w' base a n c l := by
  refine ⟨h.1, h.2.1, ?_⟩
  rcases h.2.2 with h1 | ⟨g, cap, cur, h', hbg, hg, r⟩
  · exact .inl h1
  · cases h'
    exact .inr ⟨g, _, cur, rfl, hbg, by rw [hu.block g (Array.getElem?_eq_some_iff.1 hg).1 (hf _ rfl)]; exact hg, r⟩
theorem OwnK.base {e : TypeId} {w : World} {base base' : Nat} {a : Option Addr} {n c : Nat} {l : List α} (h : OwnK enc k e w base a n c l) (hb : base' ≤ base) : OwnK enc k e w base' a n c l := by
  refine ⟨h.1, h.2.1, ?_⟩
  rcases h.2.2 with h1 | ⟨g, cap, cur, h', hbg, r⟩
  · exact .inl h1
  · exact .inr ⟨g, cap, cur, h', Nat.le_trans hb hbg, r⟩
theorem RdK.one (hE : EncK enc k) (e : TypeId) (w : World) (x : α) (cs : Array Value) (hcs : cs = (enc x).toArray) : RdK enc k (w.alloc (.cells cs e)) (some ⟨w.heap.size, 0, none⟩) 1 1 [x] := by
  refine ⟨rfl, Nat.le_refl _, by unfold maxLen; omega, (fun h => by cases h), .inr ⟨w.heap.size, 0, rfl, by simp, fun i y hy j v hv => ?_⟩⟩
  cases i with
  | zero =>
    simp only [List.getElem?_cons_zero, Option.some.injEq] at hy; subst hy; subst hcs
    rw [Nat.zero_mul, Nat.zero_add, Nat.zero_add]
    exact cell_of_heap (heap_alloc_new w _) j v (by simpa using hv)
  | succ i => simp at hy

/-- The element type's row of the table. -/
def InfoK (P : Program) (t e : TypeId) (k bytes : Nat) : Prop := P.underlying t = some (.slice e) ∧ ∃ i z, P.info? e = some i ∧ i.zero = some z ∧ i.size = k ∧ i.bytes = bytes ∧ z.cells.size = k
end

section
variable {α : Type} {enc : α → List Value} {k : Nat} {P : Program} {w : World} {ops : Array Oper} {rest : List Oper} {o : Oper} {a : Act} {Q : Exit → Act → World → Prop}
/-- append to what the call owns, and where the answer lies. -/
theorem wp_appK (hE : EncK enc k) {K : Act → World → Prop} {s x : Operand} {t : TypeId} (ho : o.op = .call { callee := .builtin .append, args := #[s, x], argTypes := #[t, t] })
    {base : Nat} {e : TypeId} {bytes : Nat} (hI : InfoK P t e k bytes) {sa xa : Option Addr} {sn sc xn xc : Nat} (hs : a.eval s = .slice sa sn sc) (hx : a.eval x = .slice xa xn xc)
    {l1 l2 : List α} (hown : OwnK enc k e w base sa sn sc l1) (hr : RdK enc k w xa xn xc l2) (hp : 0 < xn)
    (hfit : (sn + xn) * bytes ≤ 140737488355328) (hfit2 : sn + xn ≤ 140737488355328) (hbase : base ≤ w.heap.size)
    (h : ∀ a' c' w', OwnK enc k e w' base a' (sn + xn) c' (l1 ++ l2) → Upd (· ∈ blk sa) w w' → (∀ k ∈ blk a', k ∈ blk sa ∨ w.heap.size ≤ k) → K (a.put o.dst (.slice a' (sn + xn) c')) w') : o.wp P a w K Q := by
  obtain ⟨ht, i, z, hi, hz, hsize, hby, hzs⟩ := hI
  obtain ⟨hl1, how⟩ := hown
  obtain ⟨b, off, rfl, hb, hcs⟩ := hr.at hp
  have hl2 := hr.1
  have hnk : ∀ j v, (flatK enc l2)[j]? = some v → w.cell? ⟨b, off + j, none⟩ = some v := by
    intro j v hj
    have hjl := (List.getElem?_eq_some_iff.1 hj).1
    rw [flatK_length hE] at hjl
    have hk := hE.pos
    have hik : j / k < l2.length := Nat.div_lt_of_lt_mul (by rw [Nat.mul_comm]; exact hjl)
    have hmod := Nat.mod_lt j hk
    have hjk : j / k * k + j % k = j := by rw [Nat.mul_comm]; exact Nat.div_add_mod j k
    have hx1 := List.getElem?_eq_getElem hik
    have hlen := hE.len l2[j / k]
    have hv1 : (enc l2[j / k])[j % k]? = some ((enc l2[j / k])[j % k]'(by omega)) := List.getElem?_eq_getElem (by omega)
    have h1 := flatK_get hE l2 _ _ hx1 _ _ hv1
    rw [hjk, hj] at h1
    have h2 := hcs _ _ hx1 _ _ hv1
    rw [hjk] at h2
    rw [h2, ← h1]
  obtain ⟨v', w', hrun, hv', hg, hn, hat⟩ := run_append_own_at (P := P) w base t o.type e i z k bytes ht hi hz hsize hby hzs hE.pos _ sn _ how ⟨b, off, none⟩ xn xc (flatK enc l2) (by rw [flatK_length hE, hl2]) (fun j u hu => by
      rw [addr_add]
      exact hnk j u hu) (flatK_one hE l2) (by unfold maxLen; omega) hfit hbase
  have hu : Upd (· ∈ blk sa) w w' := Upd.grown hg (fun k hk => by
      cases sa with
      | none => cases hk
      | some ad' => cases hk; exact List.mem_singleton.2 rfl)
  have hwp : ∀ a' c', v' = .slice a' (sn + xn) c' → o.wp P a w K Q := by
      intro a' c' hv
      subst hv
      have := h a' c' w' ⟨by simp; omega, by rw [flatK_append]; exact hv'⟩ hu (fun k hk => by
        obtain ⟨y, rfl, rfl⟩ := mem_blk.1 hk
        rcases hat with hat | hat
        · left
          cases sa with
          | none => cases hat
          | some ad' => simp only [Value.ownBlock, Option.some.injEq] at hat; exact mem_blk.2 ⟨ad', rfl, hat.symm⟩
        · right
          simp only [Value.ownBlock, Option.some.injEq] at hat
          omega)
      unfold Oper.wp
      simp only [execOp, ho, resolve, invoke, builtin, Sem.run_bind, Sem.run_pure, Result.andThen_ok, List.map_toArray, List.map_cons, List.map_nil, hs, hx, hrun]
      exact this
  rcases hv'.2 with ⟨hv, h0⟩ | ⟨g', cap', cur, hv, rest'⟩
  · omega
  · exact hwp _ cap' hv
theorem step_appK (hE : EncK enc k) {K : Act → World → Prop} {E : Prop} (hgd : o.guard = none) {s x : Operand} {t : TypeId} (ho : o.op = .call { callee := .builtin .append, args := #[s, x], argTypes := #[t, t] })
    {base : Nat} {e : TypeId} {bytes : Nat} (hI : InfoK P t e k bytes) {sa xa : Option Addr} {sn sc xn xc : Nat} (hs : a.eval s = .slice sa sn sc) (hx : a.eval x = .slice xa xn xc)
    {l1 l2 : List α} (hown : OwnK enc k e w base sa sn sc l1) (hr : RdK enc k w xa xn xc l2) (hp : 0 < xn)
    (hfit : (sn + xn) * bytes ≤ 140737488355328) (hfit2 : sn + xn ≤ 140737488355328) (hbase : base ≤ w.heap.size)
    (h : ∀ a' c' w', OwnK enc k e w' base a' (sn + xn) c' (l1 ++ l2) → Upd (· ∈ blk sa) w w' → (∀ k ∈ blk a', k ∈ blk sa ∨ w.heap.size ≤ k) → K (a.put o.dst (.slice a' (sn + xn) c')) w') :
    if Region.wanted o (yielded ops a.tmps) = true then Oper.wp P o a w K Q else E := by
  have hw : Region.wanted o (yielded ops a.tmps) = true := by simp [Region.wanted, hgd]
  rw [if_pos hw]
  exact wp_appK hE ho hI hs hx hown hr hp hfit hfit2 hbase h
theorem wpList_appK (hE : EncK enc k) (hgd : o.guard = none) {s x : Operand} {t : TypeId} (ho : o.op = .call { callee := .builtin .append, args := #[s, x], argTypes := #[t, t] })
    {base : Nat} {e : TypeId} {bytes : Nat} (hI : InfoK P t e k bytes) {sa xa : Option Addr} {sn sc xn xc : Nat} (hs : a.eval s = .slice sa sn sc) (hx : a.eval x = .slice xa xn xc)
    {l1 l2 : List α} (hown : OwnK enc k e w base sa sn sc l1) (hr : RdK enc k w xa xn xc l2) (hp : 0 < xn)
    (hfit : (sn + xn) * bytes ≤ 140737488355328) (hfit2 : sn + xn ≤ 140737488355328) (hbase : base ≤ w.heap.size)
    (h : ∀ a' c' w', OwnK enc k e w' base a' (sn + xn) c' (l1 ++ l2) → Upd (· ∈ blk sa) w w' → (∀ k ∈ blk a', k ∈ blk sa ∨ w.heap.size ≤ k) → wpList P ops Q rest (a.put o.dst (.slice a' (sn + xn) c')) w') : wpList P ops Q (o :: rest) a w :=
  wpList_plain hgd fun _ hK => wp_appK hE ho hI hs hx hown hr hp hfit hfit2 hbase fun a' c' w' h2 h3 h4 => hK _ _ (h a' c' w' h2 h3 h4)
end
end Go.Proofs.Ytpkmdnfkeebgbaa

/- append of so many zeros, 'append(s, make([]T, m)...)', to what the call owns. No condition. -/
namespace Go.Proofs.Ytpkmdnfkeebgbaa
open Go.ChangeShapes Go.WideShapes Go.ChangeAt Go.RowKit
set_option linter.unusedVariables false
set_option linter.unusedSimpArgs false

section
variable {α : Type} {P : Program} {w : World} {ops : Array Oper} {rest : List Oper} {o : Oper} {a : Act} {Q : Exit → Act → World → Prop}

theorem zeroCells_one (x : Value) (m : Nat) : Builtin.zeroCells #[x] m = (List.replicate m x).toArray := by
  apply Array.ext
  · simp [Builtin.zeroCells]
  · intro i h1 h2
    simp [Builtin.zeroCells, Nat.mod_one]

theorem run_append_room_zeros (t tn ty e : TypeId) (i : TypeInfo) (z : Value) (kq kn : IntKind) (ht : P.underlying t = some (.slice e)) (htn : P.underlying tn = some (.int kn)) (hi : P.info? e = some i) (hz : i.zero = some z) (hzc : z.cells = #[z]) (hone : z.oneCell' = true) (hsize : i.size = 1)
    (g sLen sCap : Nat) (cur : Array Value) (hg : w.heap[g]? = some (.cells cur e (0, 0))) (m : Nat) (hroom : sLen + m ≤ sCap) (hfit : sLen + m ≤ cur.size) (h48 : m * i.bytes ≤ 281474976710656) (hm : m ≤ 9223372036854775807) :
    (Builtin.append_ #[t, tn] ty #[.slice (some ⟨g, 0, none⟩) sLen sCap, .int kq m]).run P w =
      .ok (.slice (some ⟨g, 0, none⟩) (sLen + m) sCap) (w.setRow g (cur.toList.take sLen ++ List.replicate m z ++ cur.toList.drop (sLen + m)).toArray) := by
  have hst := run_storeCells_at P g sLen e (List.replicate m z) 0 cur w hg (by simpa using hfit) (fun v hv => by rw [List.eq_of_mem_replicate hv]; exact hone)
  simp only [Nat.add_zero, List.length_replicate] at hst
  have hw : IntKind.i64.wrap (m : Int) = m := by rw [IntKind.wrap_i64]; omega
  have hneg : ¬ ((m : Int) < 0) := by omega
  have h48i : ¬ (281474976710656 < (m : Int) * (i.bytes : Int)) := by
    rw [← Int.natCast_mul]
    omega
  by_cases hm0 : m = 0
  · subst hm0
    simp only [List.replicate_zero] at hst
    have hw0 : IntKind.i64.wrap 0 = 0 := by decide
    have hr0 : sLen ≤ sCap := by omega
    simp [Builtin.append_, run_underlying ht, run_underlying htn, sizeOf, typeInfo, zeroValue, hi, hz, asInt, asIntOf, hw0, hr0, Addr.add_lit, hsize]
    simp [hst]
  · have hns : ¬ (m * i.size = 0) := by rw [hsize]; omega
    simp [Builtin.append_, run_underlying ht, run_underlying htn, sizeOf, typeInfo, zeroValue, hi, hz, asInt, asIntOf, hw, hneg, h48i, hroom, Addr.add_lit, hsize, hzc, zeroCells_one, hm0]
    simp [hst]

theorem run_append_own_zeros (base : Nat) (t tn ty e : TypeId) (i : TypeInfo) (z : Value) (kq kn : IntKind) (ht : P.underlying t = some (.slice e)) (htn : P.underlying tn = some (.int kn)) (hi : P.info? e = some i) (hz : i.zero = some z) (hzc : z.cells = #[z]) (hone : z.oneCell' = true) (hsize : i.size = 1)
    (v : Value) (n : Nat) (xs : List Value) (hown : w.ownsRow base e 1 v n xs) (m : Nat) (h63 : n + m ≤ maxLen) (hbytes : (n + m) * i.bytes ≤ 140737488355328) (hbase : base ≤ w.heap.size) :
    ∃ v' w', (Builtin.append_ #[t, tn] ty #[v, .int kq m]).run P w = .ok v' w' ∧ w'.ownsRow base e 1 v' (n + m) (xs ++ List.replicate m z) ∧ w.grownBy w' v.ownBlock ∧ (v' = .slice none 0 0 ↔ v = .slice none 0 0 ∧ m = 0) := by
  have hsmall : n + m ≤ 9223372036854775807 := by simp only [maxLen] at h63; omega
  have hxl : xs.length = n := by have := hown.1; omega
  have hlen : (xs ++ List.replicate m z).length = (n + m) * 1 := by rw [List.length_append, hown.1, List.length_replicate]; omega
  have hmb : m * i.bytes ≤ 140737488355328 := Nat.le_trans (Nat.mul_le_mul_right _ (Nat.le_add_left m n)) hbytes
  have grown : ∀ (old : Nat), old < n + m → ∀ (row : Option Nat),
      (w.drew.alloc (.cells (xs.toArray ++ Builtin.zeroCells z.cells m ++ Builtin.zeroCells z.cells (grownCap w (n + m) old e - (n + m))) e)).ownsRow base e 1
        (.slice (some ⟨w.heap.size, 0, none⟩) (n + m) (grownCap w (n + m) old e)) (n + m) (xs ++ List.replicate m z) ∧
      w.grownBy (w.drew.alloc (.cells (xs.toArray ++ Builtin.zeroCells z.cells m ++ Builtin.zeroCells z.cells (grownCap w (n + m) old e - (n + m))) e)) row := by
    intro old ho row
    have hge := grownCap_ge w (n + m) old e
    have hcm : grownCap w (n + m) old e ≤ maxLen := grownCap_le_maxLen w (n + m) old e h63
    rw [hzc, zeroCells_one, zeroCells_one]
    refine ⟨⟨hlen, .inr ⟨w.heap.size, _, _, rfl, hbase, heap_alloc_new w.drew _, hge, hcm, ?_, ?_⟩⟩, ⟨rfl, rfl, rfl, by simp, fun k hk _ => heap_alloc_old w.drew _ hk⟩⟩
    · simp [hxl]; omega
    · simp only [Array.toList_append, List.append_assoc]
      rw [← List.append_assoc, ← hlen]
      exact List.take_left
  rcases hown.2 with ⟨rfl, rfl⟩ | ⟨g, cap, cur, rfl, hbg, hg, hnc, hcm, hcs, htake⟩
  · have hx : xs = [] := List.eq_nil_of_length_eq_zero hxl
    subst hx
    by_cases hm : m = 0
    · subst hm
      have hw : IntKind.i64.wrap 0 = 0 := by decide
      refine ⟨.slice none 0 0, w, ?_, World.ownsRow_nil w base e 1, ⟨rfl, rfl, rfl, Nat.le_refl _, fun _ _ _ => rfl⟩, by simp⟩
      simp [Builtin.append_, run_underlying ht, run_underlying htn, sizeOf, typeInfo, hi, asInt, asIntOf, hw]
    · have hr := Lib.run_append_nil_zeros (P := P) w t tn ty e i z kq kn ht htn hi hz m (by omega) (by omega) (by omega) (by omega)
      have hgr := grown 0 (by omega) (Value.ownBlock (.slice none 0 0))
      simp only [Nat.zero_add, List.nil_append, Array.empty_append] at hgr ⊢
      exact ⟨_, _, hr, hgr.1, hgr.2, by simp [hm]⟩
  · by_cases hroom : n + m ≤ cap
    · have hfit : n + m ≤ cur.size := by rw [hcs]; omega
      have hr := run_append_room_zeros (P := P) (w := w) t tn ty e i z kq kn ht htn hi hz hzc hone hsize g n cap cur hg m hroom hfit (by omega) (by omega)
      refine ⟨_, _, hr, ⟨hlen, .inr ⟨g, cap, _, rfl, hbg, setRow_heap w g cur _ e _ hg, hroom, hcm, ?_, ?_⟩⟩, ⟨rfl, rfl, rfl, by simp, fun k _ hk => setRow_other w g k _ (fun e => hk (by simp [Value.ownBlock, e]))⟩, by simp⟩
      · simp only [List.size_toArray, List.length_append, List.length_take, List.length_drop, Array.length_toList, List.length_replicate]
        omega
      · rw [Nat.mul_one] at htake
        rw [htake, ← hlen]
        exact List.take_left
    · have holds : ∀ j u, xs[j]? = some u → w.drew.cell? ((⟨g, 0, none⟩ : Addr).add j) = some u := hown.cells (g := g) rfl
      have hf : (Builtin.firstCells i.size n (.slice (some ⟨g, 0, none⟩) n cap)).run P w.drew = .ok xs.toArray w.drew := run_firstCells_some (P := P) w.drew i.size n ⟨g, 0, none⟩ n cap xs (by rw [hsize]; omega) holds
      have hr := Lib.run_append_grow_zeros (P := P) w t tn ty e i z kq kn ht htn hi hz (some ⟨g, 0, none⟩) n cap xs hf m (by omega) (by omega) (by omega) (by omega) (by omega) (growslice_fits (by omega) hbytes)
      have hgr := grown cap (by omega) (Value.ownBlock (.slice (some ⟨g, 0, none⟩) n cap))
      exact ⟨_, _, hr, hgr.1, hgr.2, by simp⟩

theorem wpList_appZeros {enc : α → Value} (x0 : α) (hgd : o.guard = none) {s x : Operand} {t tn : TypeId} (ho : o.op = .call { callee := .builtin .append, args := #[s, x], argTypes := #[t, tn] }) {kn : IntKind} (htn : P.underlying tn = some (.int kn))
    {base : Nat} {e : TypeId} {bytes : Nat} (hI : OneInfo P t e bytes) (hz0 : (P.info? e).map (fun i => i.zero) = some (some (enc x0))) (hzc : (enc x0).cells = #[enc x0]) (hone : (enc x0).oneCell' = true)
    {sa : Option Addr} {sn sc m : Nat} {kq : IntKind} {X : Int} (hs : a.eval s = .slice sa sn sc) (hx : a.eval x = .int kq X) (hX : X = (m : Int))
    {l1 : List α} (hown : Own enc e w base sa sn sc l1) (hfit : (sn + m) * bytes ≤ 140737488355328) (hfit2 : sn + m ≤ 140737488355328) (hbase : base ≤ w.heap.size)
    (h : ∀ a' c' w', Own enc e w' base a' (sn + m) c' (l1 ++ List.replicate m x0) → Below base w w' → (a' = none → sa = none) → w.grownBy w' (Value.slice sa sn sc).ownBlock → wpList P ops Q rest (a.put o.dst (.slice a' (sn + m) c')) w') : wpList P ops Q (o :: rest) a w := by
  subst hX
  obtain ⟨ht, i, z, hi, hz, hsize, hby, hzs⟩ := hI
  have hze : z = enc x0 := by
    rw [hi] at hz0
    simp only [Option.map_some, Option.some.injEq] at hz0
    rw [hz] at hz0
    exact Option.some.inj hz0
  subst hze
  subst hby
  obtain ⟨hl1, how⟩ := hown
  have hlt := fun k hk => (how.lt k hk).1
  obtain ⟨v', w', hr, hv', hg, hn⟩ := run_append_own_zeros (P := P) (w := w) base t tn o.type e i (enc x0) kq kn ht htn hi hz hzc hone hsize _ sn _ how m (by unfold maxLen; omega) hfit hbase
  refine Lib.wpList_append_run w hgd s x t tn ho _ _ hs hx v' w' hr ?_
  have hmap : (l1 ++ List.replicate m x0).map enc = l1.map enc ++ List.replicate m (enc x0) := by simp
  rcases hv'.2 with ⟨rfl, h0⟩ | ⟨g', cap', cur, rfl, rest'⟩
  · obtain ⟨h5, h6⟩ := hn.1 rfl
    subst h6
    have hh := h none 0 w' ⟨by simp; omega, by rw [hmap]; rw [h0] at hv' ⊢; exact hv'⟩ ((Below.refl _ _).grown hg hbase hlt) (fun _ => by simp at h5; exact h5.1) hg
    rw [h0] at hh
    exact hh
  · exact h _ cap' w' ⟨by simp; omega, by rw [hmap]; exact hv'⟩ ((Below.refl _ _).grown hg hbase hlt) (fun h => by cases h) hg

end
end Go.Proofs.Ytpkmdnfkeebgbaa

/- append of so many zeros, and where the answer lies; a copy into what the call owns; a cut whose address is known. No condition. -/
namespace Go.Proofs.Ytpkmdnfkeebgbaa
open Go.ChangeShapes Go.WideShapes Go.ChangeAt Go.RowKit
set_option linter.unusedVariables false
set_option linter.unusedSimpArgs false

section
variable {α : Type} {P : Program} {w : World} {ops : Array Oper} {rest : List Oper} {o : Oper} {a : Act} {Q : Exit → Act → World → Prop}

theorem run_append_own_zeros_at (base : Nat) (t tn ty e : TypeId) (i : TypeInfo) (z : Value) (kq kn : IntKind) (ht : P.underlying t = some (.slice e)) (htn : P.underlying tn = some (.int kn)) (hi : P.info? e = some i) (hz : i.zero = some z) (hzc : z.cells = #[z]) (hone : z.oneCell' = true) (hsize : i.size = 1)
    (v : Value) (n : Nat) (xs : List Value) (hown : w.ownsRow base e 1 v n xs) (m : Nat) (h63 : n + m ≤ maxLen) (hbytes : (n + m) * i.bytes ≤ 140737488355328) (hbase : base ≤ w.heap.size) :
    ∃ v' w', (Builtin.append_ #[t, tn] ty #[v, .int kq m]).run P w = .ok v' w' ∧ w'.ownsRow base e 1 v' (n + m) (xs ++ List.replicate m z) ∧ w.grownBy w' v.ownBlock ∧ (v' = .slice none 0 0 ↔ v = .slice none 0 0 ∧ m = 0) ∧ (v'.ownBlock = v.ownBlock ∨ v'.ownBlock = some w.heap.size) := by
  have hsmall : n + m ≤ 9223372036854775807 := by simp only [maxLen] at h63; omega
  have hxl : xs.length = n := by have := hown.1; omega
  have hlen : (xs ++ List.replicate m z).length = (n + m) * 1 := by rw [List.length_append, hown.1, List.length_replicate]; omega
  have hmb : m * i.bytes ≤ 140737488355328 := Nat.le_trans (Nat.mul_le_mul_right _ (Nat.le_add_left m n)) hbytes
  have grown : ∀ (old : Nat), old < n + m → ∀ (row : Option Nat),
      (w.drew.alloc (.cells (xs.toArray ++ Builtin.zeroCells z.cells m ++ Builtin.zeroCells z.cells (grownCap w (n + m) old e - (n + m))) e)).ownsRow base e 1
        (.slice (some ⟨w.heap.size, 0, none⟩) (n + m) (grownCap w (n + m) old e)) (n + m) (xs ++ List.replicate m z) ∧
      w.grownBy (w.drew.alloc (.cells (xs.toArray ++ Builtin.zeroCells z.cells m ++ Builtin.zeroCells z.cells (grownCap w (n + m) old e - (n + m))) e)) row := by
    intro old ho row
    have hge := grownCap_ge w (n + m) old e
    have hcm : grownCap w (n + m) old e ≤ maxLen := grownCap_le_maxLen w (n + m) old e h63
    rw [hzc, zeroCells_one, zeroCells_one]
    refine ⟨⟨hlen, .inr ⟨w.heap.size, _, _, rfl, hbase, heap_alloc_new w.drew _, hge, hcm, ?_, ?_⟩⟩, ⟨rfl, rfl, rfl, by simp, fun k hk _ => heap_alloc_old w.drew _ hk⟩⟩
    · simp [hxl]; omega
    · simp only [Array.toList_append, List.append_assoc]
      rw [← List.append_assoc, ← hlen]
      exact List.take_left
  rcases hown.2 with ⟨rfl, rfl⟩ | ⟨g, cap, cur, rfl, hbg, hg, hnc, hcm, hcs, htake⟩
  · have hx : xs = [] := List.eq_nil_of_length_eq_zero hxl
    subst hx
    by_cases hm : m = 0
    · subst hm
      have hw : IntKind.i64.wrap 0 = 0 := by decide
      refine ⟨.slice none 0 0, w, ?_, World.ownsRow_nil w base e 1, ⟨rfl, rfl, rfl, Nat.le_refl _, fun _ _ _ => rfl⟩, by simp, .inl rfl⟩
      simp [Builtin.append_, run_underlying ht, run_underlying htn, sizeOf, typeInfo, hi, asInt, asIntOf, hw]
    · have hr := Lib.run_append_nil_zeros (P := P) w t tn ty e i z kq kn ht htn hi hz m (by omega) (by omega) (by omega) (by omega)
      have hgr := grown 0 (by omega) (Value.ownBlock (.slice none 0 0))
      simp only [Nat.zero_add, List.nil_append, Array.empty_append] at hgr ⊢
      exact ⟨_, _, hr, hgr.1, hgr.2, by simp [hm], .inr rfl⟩
  · by_cases hroom : n + m ≤ cap
    · have hfit : n + m ≤ cur.size := by rw [hcs]; omega
      have hr := run_append_room_zeros (P := P) (w := w) t tn ty e i z kq kn ht htn hi hz hzc hone hsize g n cap cur hg m hroom hfit (by omega) (by omega)
      refine ⟨_, _, hr, ⟨hlen, .inr ⟨g, cap, _, rfl, hbg, setRow_heap w g cur _ e _ hg, hroom, hcm, ?_, ?_⟩⟩, ⟨rfl, rfl, rfl, by simp, fun k _ hk => setRow_other w g k _ (fun e => hk (by simp [Value.ownBlock, e]))⟩, by simp, .inl rfl⟩
      · simp only [List.size_toArray, List.length_append, List.length_take, List.length_drop, Array.length_toList, List.length_replicate]
        omega
      · rw [Nat.mul_one] at htake
        rw [htake, ← hlen]
        exact List.take_left
    · have holds : ∀ j u, xs[j]? = some u → w.drew.cell? ((⟨g, 0, none⟩ : Addr).add j) = some u := hown.cells (g := g) rfl
      have hf : (Builtin.firstCells i.size n (.slice (some ⟨g, 0, none⟩) n cap)).run P w.drew = .ok xs.toArray w.drew := run_firstCells_some (P := P) w.drew i.size n ⟨g, 0, none⟩ n cap xs (by rw [hsize]; omega) holds
      have hr := Lib.run_append_grow_zeros (P := P) w t tn ty e i z kq kn ht htn hi hz (some ⟨g, 0, none⟩) n cap xs hf m (by omega) (by omega) (by omega) (by omega) (by omega) (growslice_fits (by omega) hbytes)
      have hgr := grown cap (by omega) (Value.ownBlock (.slice (some ⟨g, 0, none⟩) n cap))
      exact ⟨_, _, hr, hgr.1, hgr.2, by simp, .inr rfl⟩

theorem wpList_appZerosAt {enc : α → Value} (x0 : α) (hgd : o.guard = none) {s x : Operand} {t tn : TypeId} (ho : o.op = .call { callee := .builtin .append, args := #[s, x], argTypes := #[t, tn] }) {kn : IntKind} (htn : P.underlying tn = some (.int kn))
    {base : Nat} {e : TypeId} {bytes : Nat} (hI : OneInfo P t e bytes) (hz0 : (P.info? e).map (fun i => i.zero) = some (some (enc x0))) (hzc : (enc x0).cells = #[enc x0]) (hone : (enc x0).oneCell' = true)
    {sa : Option Addr} {sn sc m : Nat} {kq : IntKind} {X : Int} (hs : a.eval s = .slice sa sn sc) (hx : a.eval x = .int kq X) (hX : X = (m : Int))
    {l1 : List α} (hown : Own enc e w base sa sn sc l1) (hfit : (sn + m) * bytes ≤ 140737488355328) (hfit2 : sn + m ≤ 140737488355328) (hbase : base ≤ w.heap.size)
    (h : ∀ a' c' w', Own enc e w' base a' (sn + m) c' (l1 ++ List.replicate m x0) → Upd (· ∈ blk sa) w w' → (∀ k ∈ blk a', k ∈ blk sa ∨ w.heap.size ≤ k) → wpList P ops Q rest (a.put o.dst (.slice a' (sn + m) c')) w') : wpList P ops Q (o :: rest) a w := by
  subst hX
  obtain ⟨ht, i, z, hi, hz, hsize, hby, hzs⟩ := hI
  have hze : z = enc x0 := by
    rw [hi] at hz0
    simp only [Option.map_some, Option.some.injEq] at hz0
    rw [hz] at hz0
    exact Option.some.inj hz0
  subst hze
  subst hby
  obtain ⟨hl1, how⟩ := hown
  obtain ⟨v', w', hr, hv', hg, hn, hat⟩ := run_append_own_zeros_at (P := P) (w := w) base t tn o.type e i (enc x0) kq kn ht htn hi hz hzc hone hsize _ sn _ how m (by unfold maxLen; omega) hfit hbase
  refine Lib.wpList_append_run w hgd s x t tn ho _ _ hs hx v' w' hr ?_
  have hmap : (l1 ++ List.replicate m x0).map enc = l1.map enc ++ List.replicate m (enc x0) := by simp
  have hu : Upd (· ∈ blk sa) w w' := Upd.grown hg (fun k hk => by
    cases sa with
    | none => cases hk
    | some ad' => cases hk; exact List.mem_singleton.2 rfl)
  have hwp : ∀ a' c', v' = .slice a' (sn + m) c' → wpList P ops Q rest (a.put o.dst v') w' := by
    intro a' c' hv
    subst hv
    exact h a' c' w' ⟨by simp; omega, by rw [hmap]; exact hv'⟩ hu (fun k hk => by
      obtain ⟨y, rfl, rfl⟩ := mem_blk.1 hk
      rcases hat with hat | hat
      · left
        cases sa with
        | none => cases hat
        | some ad' => simp only [Value.ownBlock, Option.some.injEq] at hat; exact mem_blk.2 ⟨ad', rfl, hat.symm⟩
      · right
        simp only [Value.ownBlock, Option.some.injEq] at hat
        omega)
  rcases hv'.2 with ⟨hv, h0⟩ | ⟨g', cap', cur, hv, rest'⟩
  · exact hwp none 0 (by rw [hv, h0])
  · exact hwp _ cap' hv

/-- The cells of a row, laid over from a place on. -/
def spliceL (l : List α) (off : Nat) (x : List α) : List α := l.take off ++ (x ++ l.drop (off + x.length))

/-- copy into what the call owns, from whatever source. -/
theorem wpList_copyAt {enc : α → Value} (hgd : o.guard = none) {d s : Operand} {dT sT : TypeId}
    (ho : o.op = .call { callee := .builtin .copy, args := #[d, s], argTypes := #[dT, sT] }) {e e2 : TypeId} {bytes : Nat} (hI : OneInfo P dT e bytes)
    {base g off dLen dCap len cap : Nat} {l l2 : List α} (hd : a.eval d = .slice (some ⟨g, off, none⟩) dLen dCap) {xa : Option Addr} {xn xc : Nat} (hs : a.eval s = .slice xa xn xc)
    (hown : Own enc e2 w base (some ⟨g, 0, none⟩) len cap l) (hr : Rd enc w xa xn xc l2) (hfit : off + xn ≤ len) (hle : xn ≤ dLen) (h1 : ∀ y, (enc y).oneCell' = true)
    (h : ∀ w', Own enc e2 w' base (some ⟨g, 0, none⟩) len cap (spliceL l off l2) → Upd (· = g) w w' → wpList P ops Q rest (a.put o.dst (goInt xn)) w') : wpList P ops Q (o :: rest) a w := by
  obtain ⟨ht, i, z, hi, hz, hsize, hby, hzs⟩ := hI
  have hsz : (P.info? e).map (·.size) = some 1 := by rw [hi]; simp [hsize]
  obtain ⟨hl2, hc1, hc2, hcn, hcells⟩ := hr
  by_cases h0 : xn = 0
  · subst h0
    obtain rfl : l2 = [] := List.eq_nil_of_length_eq_zero hl2
    refine wpList_copy_nothing hgd d s dT sT ho e ht hsz _ _ _ _ _ _ hd hs (by simp) ?_
    have := h w (by simpa [spliceL] using hown) (Upd.refl _ _)
    exact this
  · rcases hcells with h0' | ⟨b, o2, rfl, hbk, hc⟩
    · omega
    obtain ⟨hl, h2, h3⟩ := hown
    rcases h3 with ⟨h3, h4⟩ | ⟨g', cap', cur, hv, hbg, hg, hnc, hcm, hcs, htake⟩
    · cases h3
    · cases hv
      have hcsn : (l2.map enc).length = Nat.min xn dLen := by rw [List.length_map, hl2]; exact (Nat.min_eq_left hle).symm
      refine wpList_copy_own hgd d s dT sT ho e ht hsz g off dLen dCap ⟨b, o2, none⟩ xn xc hd hs cur e2 hg (l2.map enc) hcsn (fun j v hv => ?_) (by rw [List.length_map, hl2, hcs]; omega) (fun v hv => ?_) ?_
      · rw [List.getElem?_map] at hv
        obtain ⟨y, hy, rfl⟩ := Option.map_eq_some_iff.1 hv
        rw [addr_add]
        exact hc j y hy
      · obtain ⟨y, _, rfl⟩ := List.mem_map.1 hv
        exact h1 y
      · rw [List.length_map, hl2]
        refine h _ ⟨?_, ?_, .inr ⟨g, _, _, rfl, hbg, setRow_heap w g cur _ e2 _ hg, hnc, hcm, ?_, ?_⟩⟩ ⟨rfl, rfl, rfl, by simp [World.setRow], fun k hk hn => setRow_other w g k _ hn⟩
        · simp [spliceL]; omega
        · simp [spliceL]; omega
        · simp; omega
        · simp only [Nat.mul_one] at htake ⊢
          have hcl : len ≤ cur.toList.length := by simp; omega
          have e1 : (l.map enc).take off = cur.toList.take off := by rw [← htake, List.take_take, Nat.min_eq_left (by omega)]
          have e2 : (l.map enc).drop (off + xn) = (cur.toList.drop (off + xn)).take (len - (off + xn)) := by rw [← htake, List.drop_take]
          unfold spliceL
          rw [List.map_append, List.map_append, List.map_take, List.map_drop, hl2, e1, e2]
          have hto : (cur.toList.take off).length = off := by simp; simp at hcl; omega
          rw [List.take_append, List.take_append, hto, List.length_map, hl2, List.take_of_length_le (l := cur.toList.take off) (by rw [hto]; omega), List.take_of_length_le (l := l2.map enc) (by simp; omega)]
          rw [show len - off - xn = len - (off + xn) by omega]

/-- A cut from a place on, of a slice whose address is known. -/
theorem wpList_cutAt (hgd : o.guard = none) {t : TypeId} {x lo : Operand} (ho : o.op = .slice t x (some lo) none none)
    {e : TypeId} {bytes : Nat} (hI : OneInfo P t e bytes) {g off xn xc : Nat} (hx : a.eval x = .slice (some ⟨g, off, none⟩) xn xc) {kl : IntKind} {il : Int} (hlo : a.eval lo = .int kl il)
    (h0 : 0 ≤ il) (h1 : il ≤ xn) (h2 : il < xc)
    (h : wpList P ops Q rest (a.put o.dst (.slice (some ⟨g, off + il.toNat, none⟩) (xn - il.toNat) (xc - il.toNat))) w) : wpList P ops Q (o :: rest) a w := by
  have ht : P.underlying t = some (.slice (P.elem t)) := by rw [elem_of hI.1]; exact hI.1
  have hrun := run_slice_l (P := P) (w := w) t (some ⟨g, off, none⟩) xn xc ht kl il h0 h1
  rw [sizeOf_one hI] at hrun
  have hat := run_sliceAt_slice (P := P) (w := w) t (.slice (some ⟨g, off, none⟩) xn xc) (some (.int kl il)) none none ht
  refine wpList_plain hgd fun K hK => ?_
  unfold Oper.wp
  simp only [execOp, ho, hx, hlo, Option.map_some, Option.map_none, Sem.run_bind, hat, hrun, Result.andThen, Sem.run_pure, sliced]
  rw [if_neg (by omega), Nat.mul_one, addr_add]
  exact hK _ _ h
end
end Go.Proofs.Ytpkmdnfkeebgbaa

/- Slices of two numbers of 64 bits each: what the call owns, what reads, append of one. No program in sight; no condition. -/
namespace Go.Proofs.Ytpkmdnfkeebgbaa
open Go.ChangeShapes Go.WideShapes Go.ChangeAt Go.RowKit
set_option linter.unusedVariables false
set_option linter.unusedSimpArgs false

abbrev PR := Int × Int
def cells2 (p : PR) : List Value := [.int .u64 p.1, .int .u64 p.2]
def flat2 (ps : List PR) : List Value := ps.flatMap cells2
theorem flat2_length (ps : List PR) : (flat2 ps).length = 2 * ps.length := by
  induction ps with
  | nil => rfl
  | cons p t ih => simp only [flat2, List.flatMap_cons, List.length_append, cells2, List.length_cons, List.length_nil] at ih ⊢; omega
theorem flat2_append (a b : List PR) : flat2 (a ++ b) = flat2 a ++ flat2 b := List.flatMap_append
theorem flat2_get (ps : List PR) (i : Nat) (p : PR) (h : ps[i]? = some p) : (flat2 ps)[2 * i]? = some (.int .u64 p.1) ∧ (flat2 ps)[2 * i + 1]? = some (.int .u64 p.2) := by
  induction ps generalizing i with
  | nil => simp at h
  | cons q t ih =>
    have e : flat2 (q :: t) = .int .u64 q.1 :: .int .u64 q.2 :: flat2 t := rfl
    cases i with
    | zero => simp only [List.getElem?_cons_zero, Option.some.injEq] at h; subst h; rw [e]; exact ⟨rfl, rfl⟩
    | succ i =>
      have := ih i (by simpa using h)
      rw [e, show 2 * (i + 1) = 2 * i + 1 + 1 by omega]
      exact ⟨by simpa using this.1, by simpa using this.2⟩

def OwnP (e : TypeId) (w : World) (base : Nat) (a : Option Addr) (n c : Nat) (ps : List PR) : Prop := ps.length = n ∧ w.ownsRow base e 2 (.slice a n c) n (flat2 ps)
/-- Where each of the two numbers lies. -/
def RdP (w : World) (a : Option Addr) (n c : Nat) (ps : List PR) : Prop :=
  ps.length = n ∧ n ≤ c ∧ c ≤ maxLen ∧ (a = none → c = 0) ∧ (n = 0 ∨ ∃ b off, a = some ⟨b, off, none⟩ ∧ b < w.heap.size ∧ ∀ i p, ps[i]? = some p → w.cell? ⟨b, off + 2 * i, none⟩ = some (.int .u64 p.1) ∧ w.cell? ⟨b, off + (2 * i + 1), none⟩ = some (.int .u64 p.2))

theorem OwnP.nil (e : TypeId) (w : World) (base : Nat) : OwnP e w base none 0 0 [] := ⟨rfl, World.ownsRow_nil _ _ _ _⟩
theorem OwnP.lt {e : TypeId} {w : World} {base : Nat} {a : Option Addr} {n c : Nat} {ps : List PR} (h : OwnP e w base a n c ps) : ∀ x, a = some x → base ≤ x.block ∧ x.block < w.heap.size := fun x hx => h.2.lt _ (by subst hx; rfl)
theorem OwnP.rd {e : TypeId} {w : World} {base : Nat} {a : Option Addr} {n c : Nat} {ps : List PR} (h : OwnP e w base a n c ps) : RdP w a n c ps := by
  obtain ⟨hl, h⟩ := h
  have hlt := h.lt
  rcases h.2 with ⟨h', h0⟩ | ⟨g', cap', cur, h', hb, hg, h1, h2, h3, h4⟩
  · cases h'
    exact ⟨hl, by omega, by unfold maxLen; omega, fun _ => rfl, .inl h0⟩
  · cases h'
    refine ⟨hl, h1, h2, fun h => (by cases h), .inr ⟨g', 0, rfl, (hlt g' rfl).2, fun i p hp => ?_⟩⟩
    obtain ⟨e1, e2⟩ := flat2_get ps i p hp
    have c1 := h.cells (g := g') rfl _ _ e1
    have c2 := h.cells (g := g') rfl _ _ e2
    rw [addr_add] at c1 c2
    exact ⟨c1, c2⟩
theorem RdP.below {w w' : World} {a : Option Addr} {n c : Nat} {ps : List PR} (h : RdP w a n c ps) (hb : Below w.heap.size w w') : RdP w' a n c ps := by
  obtain ⟨h1, h2, h3, h4, h5⟩ := h
  refine ⟨h1, h2, h3, h4, ?_⟩
  rcases h5 with h5 | ⟨b, off, rfl, hlt, hc⟩
  · exact .inl h5
  · exact .inr ⟨b, off, rfl, Nat.lt_of_lt_of_le hlt hb.size, fun i p hp => ⟨bcell hb hlt (hc i p hp).1, bcell hb hlt (hc i p hp).2⟩⟩
theorem OwnP.mono {e : TypeId} {w w' : World} {base : Nat} {a : Option Addr} {n c : Nat} {ps : List PR} (h : OwnP e w base a n c ps) (hb : Below w.heap.size w w') : OwnP e w' base a n c ps := by
  refine ⟨h.1, h.2.1, ?_⟩
  rcases h.2.2 with h1 | ⟨g, cap, cur, h', hbg, hg, r⟩
  · exact .inl h1
  · exact .inr ⟨g, cap, cur, h', hbg, by rw [hb.block g (Array.getElem?_eq_some_iff.1 hg).1]; exact hg, r⟩
theorem OwnP.base {e : TypeId} {w : World} {base base' : Nat} {a : Option Addr} {n c : Nat} {ps : List PR} (h : OwnP e w base a n c ps) (hb : base' ≤ base) : OwnP e w base' a n c ps := by
  refine ⟨h.1, h.2.1, ?_⟩
  rcases h.2.2 with h1 | ⟨g, cap, cur, h', hbg, r⟩
  · exact .inl h1
  · exact .inr ⟨g, cap, cur, h', Nat.le_trans hb hbg, r⟩

def TwoInfo (P : Program) (t e : TypeId) (bytes : Nat) : Prop := P.underlying t = some (.slice e) ∧ ∃ i z, P.info? e = some i ∧ i.zero = some z ∧ i.size = 2 ∧ i.bytes = bytes ∧ z.cells.size = 2

section
variable {P : Program} {w : World} {ops : Array Oper} {rest : List Oper} {o : Oper} {a : Act} {Q : Exit → Act → World → Prop}
/-- append of one pair to what the call owns, and where the answer lies. -/
theorem wp_appP {K : Act → World → Prop} {s x : Operand} {t : TypeId} (ho : o.op = .call { callee := .builtin .append, args := #[s, x], argTypes := #[t, t] })
    {base : Nat} {e : TypeId} {bytes : Nat} (hI : TwoInfo P t e bytes) {sa : Option Addr} {sn sc g : Nat} (hs : a.eval s = .slice sa sn sc) (hx : a.eval x = .slice (some ⟨g, 0, none⟩) 1 1)
    {ps : List PR} {p : PR} (hown : OwnP e w base sa sn sc ps) (hc0 : w.cell? ⟨g, 0, none⟩ = some (.int .u64 p.1)) (hc1 : w.cell? ⟨g, 1, none⟩ = some (.int .u64 p.2))
    (hfit : (sn + 1) * bytes ≤ 140737488355328) (hfit2 : sn + 1 ≤ 140737488355328) (hbase : base ≤ w.heap.size)
    (h : ∀ a' c' w', OwnP e w' base a' (sn + 1) c' (ps ++ [p]) → Upd (· ∈ blk sa) w w' → (∀ k ∈ blk a', k ∈ blk sa ∨ w.heap.size ≤ k) → K (a.put o.dst (.slice a' (sn + 1) c')) w') : o.wp P a w K Q := by
  obtain ⟨ht, i, z, hi, hz, hsize, hby, hzs⟩ := hI
  obtain ⟨hl1, how⟩ := hown
  obtain ⟨v', w', hrun, hv', hg, hn, hat⟩ := run_append_own_at (P := P) w base t o.type e i z 2 bytes ht hi hz hsize hby hzs (by decide) _ sn _ how ⟨g, 0, none⟩ 1 1 (cells2 p) rfl (fun j u hu => by
      rw [addr_add]
      match j, hu with
      | 0, hu => cases hu; exact hc0
      | 1, hu => cases hu; exact hc1
      | j + 2, hu => simp [cells2] at hu) (fun u hu => by simp [cells2] at hu; rcases hu with rfl | rfl <;> rfl) (by unfold maxLen; omega) hfit hbase
  have hu : Upd (· ∈ blk sa) w w' := Upd.grown hg (fun k hk => by
      cases sa with
      | none => cases hk
      | some ad' => cases hk; exact List.mem_singleton.2 rfl)
  have hwp : ∀ a' c', v' = .slice a' (sn + 1) c' → o.wp P a w K Q := by
      intro a' c' hv
      subst hv
      have := h a' c' w' ⟨by simp; omega, by rw [flat2_append]; simpa [flat2] using hv'⟩ hu (fun k hk => by
        obtain ⟨y, rfl, rfl⟩ := mem_blk.1 hk
        rcases hat with hat | hat
        · left
          cases sa with
          | none => cases hat
          | some ad' => simp only [Value.ownBlock, Option.some.injEq] at hat; exact mem_blk.2 ⟨ad', rfl, hat.symm⟩
        · right
          simp only [Value.ownBlock, Option.some.injEq] at hat
          omega)
      unfold Oper.wp
      simp only [execOp, ho, resolve, invoke, builtin, Sem.run_bind, Sem.run_pure, Result.andThen_ok, List.map_toArray, List.map_cons, List.map_nil, hs, hx, hrun]
      exact this
  rcases hv'.2 with ⟨hv, h0⟩ | ⟨g', cap', cur, hv, rest'⟩
  · omega
  · exact hwp _ cap' hv

theorem step_appP {K : Act → World → Prop} {E : Prop} (hgd : o.guard = none) {s x : Operand} {t : TypeId} (ho : o.op = .call { callee := .builtin .append, args := #[s, x], argTypes := #[t, t] })
    {base : Nat} {e : TypeId} {bytes : Nat} (hI : TwoInfo P t e bytes) {sa : Option Addr} {sn sc g : Nat} (hs : a.eval s = .slice sa sn sc) (hx : a.eval x = .slice (some ⟨g, 0, none⟩) 1 1)
    {ps : List PR} {p : PR} (hown : OwnP e w base sa sn sc ps) (hc0 : w.cell? ⟨g, 0, none⟩ = some (.int .u64 p.1)) (hc1 : w.cell? ⟨g, 1, none⟩ = some (.int .u64 p.2))
    (hfit : (sn + 1) * bytes ≤ 140737488355328) (hfit2 : sn + 1 ≤ 140737488355328) (hbase : base ≤ w.heap.size)
    (h : ∀ a' c' w', OwnP e w' base a' (sn + 1) c' (ps ++ [p]) → Upd (· ∈ blk sa) w w' → (∀ k ∈ blk a', k ∈ blk sa ∨ w.heap.size ≤ k) → K (a.put o.dst (.slice a' (sn + 1) c')) w') :
    if Region.wanted o (yielded ops a.tmps) = true then Oper.wp P o a w K Q else E := by
  have hw : Region.wanted o (yielded ops a.tmps) = true := by simp [Region.wanted, hgd]
  rw [if_pos hw]
  exact wp_appP ho hI hs hx hown hc0 hc1 hfit hfit2 hbase h

theorem wpList_appP (hgd : o.guard = none) {s x : Operand} {t : TypeId} (ho : o.op = .call { callee := .builtin .append, args := #[s, x], argTypes := #[t, t] })
    {base : Nat} {e : TypeId} {bytes : Nat} (hI : TwoInfo P t e bytes) {sa : Option Addr} {sn sc g : Nat} (hs : a.eval s = .slice sa sn sc) (hx : a.eval x = .slice (some ⟨g, 0, none⟩) 1 1)
    {ps : List PR} {p : PR} (hown : OwnP e w base sa sn sc ps) (hc0 : w.cell? ⟨g, 0, none⟩ = some (.int .u64 p.1)) (hc1 : w.cell? ⟨g, 1, none⟩ = some (.int .u64 p.2))
    (hfit : (sn + 1) * bytes ≤ 140737488355328) (hfit2 : sn + 1 ≤ 140737488355328) (hbase : base ≤ w.heap.size)
    (h : ∀ a' c' w', OwnP e w' base a' (sn + 1) c' (ps ++ [p]) → Upd (· ∈ blk sa) w w' → (∀ k ∈ blk a', k ∈ blk sa ∨ w.heap.size ≤ k) → wpList P ops Q rest (a.put o.dst (.slice a' (sn + 1) c')) w') : wpList P ops Q (o :: rest) a w :=
  wpList_plain hgd fun _ hK => wp_appP ho hI hs hx hown hc0 hc1 hfit hfit2 hbase fun a' c' w' h2 h3 h4 => hK _ _ (h a' c' w' h2 h3 h4)
end
end Go.Proofs.Ytpkmdnfkeebgbaa
