/- General words and small laws for this claim's walks: what a slice reads as, what a call owns, appends and cuts. No condition. -/
import Derived.Test.YtiobhgemjbjipaaPmPlain
import Derived.WalkKit
import Derived.ProofKit
import Derived.OpenShut
import Derived.WalkLawsBesides
import Derived.WalkSpells
import Derived.Lib.Hide
import Derived.Deep.QuietTactic
import Derived.BigQuiet
import Derived.Laws.AppendOwnNone
import Derived.Laws.CopyOwn
import Derived.Deep.RegionLaw
import Derived.Lib.SlBytesConst
namespace Go.Proofs.Ytiobhgemjbjipaa
open Go.ChangeShapes Go.WideShapes Go.ChangeAt Go.RowKit
set_option linter.unusedVariables false

theorem ret_bool {a b : Bool} (h : a = b) : Ending.returned (.bool a) = .returned (.bool b) := by rw [h]
theorem ret_int {k : IntKind} {a b : Int} (h : a = b) : Ending.returned (.int k a) = .returned (.int k b) := by rw [h]

theorem ret_sl {a : Option Addr} {n m c : Nat} (h : n = m) : Ending.returned (.slice a n c) = .returned (.slice a m c) := by rw [h]
theorem ret_slb {a : Option Addr} {n m c : Nat} {b : Bool} (h : n = m) : Ending.returned (.tuple #[.slice a n c, .bool b]) = .returned (.tuple #[.slice a m c, .bool b]) := by rw [h]

theorem ret_slc {a : Option Addr} {n m c : Nat} {k : IntKind} {x : Int} (h : n = m) : Ending.returned (.tuple #[.slice a n c, .int k x]) = .returned (.tuple #[.slice a m c, .int k x]) := by rw [h]

theorem addr_add (b off i : Nat) : (⟨b, off, none⟩ : Addr).add i = ⟨b, off + i, none⟩ := by
  unfold Addr.add; split <;> simp_all

section
variable {α : Type}

/-- The cells from an address on hold l. -/
def Cells (enc : α → Value) (w : World) (b off : Nat) (l : List α) : Prop := ∀ i x, l[i]? = some x → w.cell? ⟨b, off + i, none⟩ = some (enc x)

/-- A slice reads as l: nil, or cells that hold it. -/
def Rd (enc : α → Value) (w : World) (a : Option Addr) (len cap : Nat) (l : List α) : Prop :=
  l.length = len ∧ len ≤ cap ∧ cap ≤ maxLen ∧ (a = none → cap = 0) ∧ (len = 0 ∨ ∃ b off, a = some ⟨b, off, none⟩ ∧ b < w.heap.size ∧ Cells enc w b off l)

/-- A slice that the call owns from block base on, and what it holds. -/
def Own (enc : α → Value) (e : TypeId) (w : World) (base : Nat) (a : Option Addr) (len cap : Nat) (l : List α) : Prop :=
  l.length = len ∧ w.ownsRow base e 1 (.slice a len cap) len (l.map enc)

theorem Own.rd {enc : α → Value} {e : TypeId} {w : World} {base : Nat} {a : Option Addr} {len cap : Nat} {l : List α} (h : Own enc e w base a len cap l) : Rd enc w a len cap l := by
  obtain ⟨hl, h⟩ := h
  rcases h.2 with ⟨h', h0⟩ | ⟨g', cap', cur, h', hb, hg, h1, h2, h3, h4⟩
  · simp only [Value.slice.injEq] at h'
    exact ⟨hl, by omega, by unfold maxLen; omega, fun _ => h'.2.2, .inl h'.2.1⟩
  · simp only [Value.slice.injEq, true_and] at h'
    obtain ⟨rfl, rfl⟩ := h'
    refine ⟨hl, h1, h2, fun h => by (cases h), .inr ⟨g', 0, rfl, (Array.getElem?_eq_some_iff.1 hg).1, fun i x hx => ?_⟩⟩
    have := h.cells (g := g') rfl i (enc x) (by simp [hx])
    rwa [addr_add] at this

theorem Cells.mono {enc : α → Value} {w w' : World} {b off : Nat} {l : List α} (h : Cells enc w b off l) (hb : w'.heap[b]? = w.heap[b]?) : Cells enc w' b off l :=
  fun i x hx => (World.cell?_of_block (w := w) (a := ⟨b, off + i, none⟩) hb).trans (h i x hx)

theorem Rd.mono {enc : α → Value} {w w' : World} {a : Option Addr} {len cap : Nat} {l : List α} (h : Rd enc w a len cap l) (hb : Below w.heap.size w w') : Rd enc w' a len cap l := by
  obtain ⟨h1, h2, h3, hn, h4⟩ := h
  refine ⟨h1, h2, h3, hn, ?_⟩
  rcases h4 with h4 | ⟨b, off, rfl, hlt, hc⟩
  · exact .inl h4
  · exact .inr ⟨b, off, rfl, Nat.lt_of_lt_of_le hlt hb.size, hc.mono (hb.block b hlt)⟩

/-- What lies below B is read behind whatever was written from B on. -/
theorem Rd.below {enc : α → Value} {w w' : World} {a : Option Addr} {len cap : Nat} {l : List α} {B : Nat} (h : Rd enc w a len cap l) (hb : Below B w w') (hB : ∀ x, a = some x → x.block < B) : Rd enc w' a len cap l := by
  obtain ⟨h1, h2, h3, hn, h4⟩ := h
  refine ⟨h1, h2, h3, hn, ?_⟩
  rcases h4 with h4 | ⟨b, off, rfl, hlt, hc⟩
  · exact .inl h4
  · exact .inr ⟨b, off, rfl, Nat.lt_of_lt_of_le hlt hb.size, hc.mono (hb.block b (hB _ rfl))⟩

/-- A slice with elements has an address. -/
theorem Rd.at {enc : α → Value} {w : World} {a : Option Addr} {len cap : Nat} {l : List α} (h : Rd enc w a len cap l) (hp : 0 < len) : ∃ b off, a = some ⟨b, off, none⟩ ∧ b < w.heap.size ∧ Cells enc w b off l := by
  obtain ⟨h1, h2, h3, hn, h4⟩ := h
  rcases h4 with h4 | h4
  · omega
  · exact h4

theorem Own.mono {enc : α → Value} {e : TypeId} {w w' : World} {base : Nat} {a : Option Addr} {len cap : Nat} {l : List α} (h : Own enc e w base a len cap l) (hb : Below w.heap.size w w') : Own enc e w' base a len cap l := by
  obtain ⟨hl, h1, h2⟩ := h
  refine ⟨hl, h1, ?_⟩
  rcases h2 with h2 | ⟨g, c, cur, hv, hbg, hg, rest⟩
  · exact .inl h2
  · exact .inr ⟨g, c, cur, hv, hbg, by rw [hb.block g (Array.getElem?_eq_some_iff.1 hg).1]; exact hg, rest⟩

/-- What is owned from base on is owned from any lower number on. -/
theorem Own.base {enc : α → Value} {e : TypeId} {w : World} {base base' : Nat} {a : Option Addr} {len cap : Nat} {l : List α} (h : Own enc e w base a len cap l) (hb : base' ≤ base) : Own enc e w base' a len cap l := by
  obtain ⟨hl, h1, h2⟩ := h
  refine ⟨hl, h1, ?_⟩
  rcases h2 with h2 | ⟨g, c, cur, hv, hbg, rest⟩
  · exact .inl h2
  · exact .inr ⟨g, c, cur, hv, by omega, rest⟩

theorem Own.ge {enc : α → Value} {e : TypeId} {w : World} {base : Nat} {a : Option Addr} {len cap : Nat} {l : List α} (h : Own enc e w base a len cap l) : ∀ x, a = some x → base ≤ x.block := by
  rintro x rfl
  obtain ⟨hl, h1, h2⟩ := h
  rcases h2 with ⟨h2, _⟩ | ⟨g, c, cur, hv, hbg, rest⟩
  · cases h2
  · cases hv; exact hbg

theorem Own.nil (enc : α → Value) (e : TypeId) (w : World) (base : Nat) : Own enc e w base none 0 0 [] := ⟨rfl, World.ownsRow_nil w base e 1⟩

/-- A literal, just laid. -/
theorem Own.lit {enc : α → Value} {e : TypeId} {w : World} {base : Nat} (l : List α) (cs : Array Value) (n : Nat) (hcs : cs = (l.map enc).toArray) (hn : l.length = n) (hb : base ≤ w.heap.size) (hm : n ≤ maxLen) :
    Own enc e (w.alloc (.cells cs e)) base (some ⟨w.heap.size, 0, none⟩) n n l := by
  subst hcs
  have := World.ownsRow_lit (base := base) (e := e) (size := 1) w (l.map enc).toArray n hb hm (by simpa using hn)
  exact ⟨hn, by simpa using this⟩

/-- What is owned and has elements lies at its block's head. -/
theorem Own.at {enc : α → Value} {e : TypeId} {w : World} {base : Nat} {a : Option Addr} {len cap : Nat} {l : List α} (h : Own enc e w base a len cap l) (hp : 0 < len) : ∃ g, a = some ⟨g, 0, none⟩ ∧ base ≤ g ∧ g < w.heap.size := by
  obtain ⟨hl, h1, h2⟩ := h
  rcases h2 with ⟨_, h2⟩ | ⟨g, c, cur, hv, hbg, hg, rest⟩
  · omega
  · cases hv; exact ⟨g, rfl, hbg, (Array.getElem?_eq_some_iff.1 hg).1⟩

theorem Own.cell {enc : α → Value} {e : TypeId} {w : World} {base : Nat} {g len cap : Nat} {l : List α} (h : Own enc e w base (some ⟨g, 0, none⟩) len cap l) (j : Nat) (x : α) (hx : l[j]? = some x) : w.cell? ⟨g, j, none⟩ = some (enc x) := by
  have hj : j < len := by have := (List.getElem?_eq_some_iff.1 hx).1; have := h.1; omega
  rw [h.2.cellAt j (by omega), List.getElem?_map, hx]; rfl

theorem Own.free {enc : α → Value} {e : TypeId} {w : World} {base : Nat} {g len cap : Nat} {l : List α} (h : Own enc e w base (some ⟨g, 0, none⟩) len cap l) (j : Nat) : w.frozen? ⟨g, j, none⟩ = false := h.2.frozenAt j

theorem Own.set {enc : α → Value} {e : TypeId} {w : World} {base : Nat} {g len cap : Nat} {l : List α} (h : Own enc e w base (some ⟨g, 0, none⟩) len cap l) (j : Nat) (x : α) : Own enc e (w.setCell ⟨g, j, none⟩ (enc x)) base (some ⟨g, 0, none⟩) len cap (l.set j x) := by
  have := (h.2.stored j (enc x)).1
  exact ⟨by simpa using h.1, by rw [List.map_set]; exact this⟩

theorem Own.alloc {enc : α → Value} {e : TypeId} {w : World} {base : Nat} {a : Option Addr} {len cap : Nat} {l : List α} (h : Own enc e w base a len cap l) (o : Obj) : Own enc e (w.alloc o) base a len cap l := h.mono ((Below.refl _ _).alloc (Nat.le_refl _) o)
theorem Rd.alloc {enc : α → Value} {w : World} {a : Option Addr} {len cap : Nat} {l : List α} (h : Rd enc w a len cap l) (o : Obj) : Rd enc (w.alloc o) a len cap l := h.mono ((Below.refl _ _).alloc (Nat.le_refl _) o)

/-- One element, just laid: the source of 'append(x, y)'. -/
theorem Rd.one (enc : α → Value) (e : TypeId) (w : World) (x : α) : Rd enc (w.alloc (.cells #[enc x] e)) (some ⟨w.heap.size, 0, none⟩) 1 1 [x] :=
  (Own.lit (base := 0) (e := e) [x] #[enc x] 1 rfl rfl (Nat.zero_le _) (by unfold maxLen; omega)).rd

theorem Rd.take {enc : α → Value} {w : World} {a : Option Addr} {len cap : Nat} {l : List α} (h : Rd enc w a len cap l) (n : Nat) (hn : n ≤ len) : Rd enc w a n cap (l.take n) := by
  obtain ⟨h1, h2, h3, hn, h4⟩ := h
  refine ⟨by simp; omega, by omega, h3, hn, ?_⟩
  rcases h4 with h4 | ⟨b, off, rfl, hlt, hc⟩
  · exact .inl (by omega)
  · refine .inr ⟨b, off, rfl, hlt, fun i x hx => hc i x ?_⟩
    rw [List.getElem?_take] at hx
    split at hx
    · exact hx
    · cases hx

theorem Rd.sliced {enc : α → Value} {w : World} {a : Option Addr} {len cap : Nat} {l : List α} (h : Rd enc w a len cap l) (lo hi : Nat) (h1 : lo ≤ hi) (h2 : hi ≤ len) :
    Rd enc w (if cap = lo then a else a.map (·.add (lo * 1))) (hi - lo) (cap - lo) ((l.drop lo).take (hi - lo)) := by
  obtain ⟨g1, g2, g3, gn, g4⟩ := h
  refine ⟨by simp; omega, by omega, by omega, ?_, ?_⟩
  · intro h
    split at h
    · omega
    · have := gn (by simpa using h); omega
  rcases g4 with g4 | ⟨b, off, rfl, hlt, hc⟩
  · left; omega
  · right
    by_cases hcl : cap = lo
    · rw [if_pos hcl]
      refine ⟨b, off, rfl, hlt, fun i x hx => ?_⟩
      rw [show hi - lo = 0 by omega] at hx
      simp at hx
    · rw [if_neg hcl]
      refine ⟨b, off + lo, by simp [addr_add], hlt, fun i x hx => ?_⟩
      rw [List.getElem?_take] at hx
      split at hx
      · rw [List.getElem?_drop] at hx
        rw [Nat.add_assoc]
        exact hc _ x hx
      · cases hx
end

/-- A slice of bytes reads as l. -/
def RdB (w : World) (a : Option Addr) (len cap : Nat) (l : List Int) : Prop := IsB l ∧ Rd (Value.int .u8) w a len cap l
/-- A slice of bytes that the call owns. -/
def OwnB (e : TypeId) (w : World) (base : Nat) (a : Option Addr) (len cap : Nat) (l : List Int) : Prop := IsB l ∧ Own (Value.int .u8) e w base a len cap l

theorem cellInt {k : IntKind} {w : World} {b off : Nat} {l : List Int} (h : Cells (Value.int k) w b off l) (i : Nat) (hi : i < l.length) : w.cell? ⟨b, off + i, none⟩ = some (.int k (l[i]?.getD 0)) := by
  rw [h i l[i] (List.getElem?_eq_getElem hi), List.getElem?_eq_getElem hi]; rfl

theorem OwnB.rd {e : TypeId} {w : World} {base : Nat} {a : Option Addr} {len cap : Nat} {l : List Int} (h : OwnB e w base a len cap l) : RdB w a len cap l := ⟨h.1, h.2.rd⟩
theorem RdB.mono {w w' : World} {a : Option Addr} {len cap : Nat} {l : List Int} (h : RdB w a len cap l) (hb : Below w.heap.size w w') : RdB w' a len cap l := ⟨h.1, h.2.mono hb⟩
theorem OwnB.mono {e : TypeId} {w w' : World} {base : Nat} {a : Option Addr} {len cap : Nat} {l : List Int} (h : OwnB e w base a len cap l) (hb : Below w.heap.size w w') : OwnB e w' base a len cap l := ⟨h.1, h.2.mono hb⟩
theorem OwnB.base {e : TypeId} {w : World} {base base' : Nat} {a : Option Addr} {len cap : Nat} {l : List Int} (h : OwnB e w base a len cap l) (hb : base' ≤ base) : OwnB e w base' a len cap l := ⟨h.1, h.2.base hb⟩
theorem Below.drewN' (w : World) (n : Nat) : Below w.heap.size w (w.drewN n) := ⟨rfl, rfl, rfl, Nat.le_refl _, fun _ _ => rfl⟩
theorem bel_drewN {B : Nat} {a w : World} (h : Below B a w) (n : Nat) : Below B a (w.drewN n) := h.trans ⟨rfl, rfl, rfl, Nat.le_refl _, fun _ _ => rfl⟩
theorem RdB.drewN {w : World} {a : Option Addr} {len cap : Nat} {l : List Int} (h : RdB w a len cap l) (n : Nat) : RdB (w.drewN n) a len cap l := h.mono (Below.drewN' w n)
theorem RdB.sliced {w : World} {a : Option Addr} {len cap : Nat} {l : List Int} (h : RdB w a len cap l) (lo hi : Nat) (h1 : lo ≤ hi) (h2 : hi ≤ len) :
    RdB w (if cap = lo then a else a.map (·.add lo)) (hi - lo) (cap - lo) ((l.drop lo).take (hi - lo)) := by
  have := h.2.sliced lo hi h1 h2
  rw [Nat.mul_one] at this
  exact ⟨(h.1.drop _).take _, this⟩
theorem RdB.take {w : World} {a : Option Addr} {len cap : Nat} {l : List Int} (h : RdB w a len cap l) (n : Nat) (hn : n ≤ len) : RdB w a n cap (l.take n) := ⟨h.1.take _, h.2.take n hn⟩
theorem RdB.len {w : World} {a : Option Addr} {len cap : Nat} {l : List Int} (h : RdB w a len cap l) : l.length = len := h.2.1
theorem OwnB.len {e : TypeId} {w : World} {base : Nat} {a : Option Addr} {len cap : Nat} {l : List Int} (h : OwnB e w base a len cap l) : l.length = len := h.2.1

section
variable {α : Type} {P : Program} {w : World} {ops : Array Oper} {rest : List Oper} {o : Oper} {a : Act} {Q : Exit → Act → World → Prop}

/-- The element type's row of the table, for an element of one cell. -/
def OneInfo (P : Program) (t e : TypeId) (bytes : Nat) : Prop := P.underlying t = some (.slice e) ∧ ∃ i z, P.info? e = some i ∧ i.zero = some z ∧ i.size = 1 ∧ i.bytes = bytes ∧ z.cells.size = 1

/-- append to what the call owns, from whatever source reads as l2: nil or not. The answer is the call's own. -/
theorem wp_appOwn {enc : α → Value} {K : Act → World → Prop} {s x : Operand} {t : TypeId} (ho : o.op = .call { callee := .builtin .append, args := #[s, x], argTypes := #[t, t] })
    {base : Nat} {e : TypeId} {bytes : Nat} (hI : OneInfo P t e bytes) {sa xa : Option Addr} {sn sc xn xc : Nat} (hs : a.eval s = .slice sa sn sc) (hx : a.eval x = .slice xa xn xc)
    {l1 l2 : List α} (hown : Own enc e w base sa sn sc l1) (hr : Rd enc w xa xn xc l2) (h1 : ∀ y, (enc y).oneCell' = true)
    (hfit : (sn + xn) * bytes ≤ 140737488355328) (hfit2 : sn + xn ≤ 140737488355328) (hbase : base ≤ w.heap.size)
    (h : ∀ a' c' w', Own enc e w' base a' (sn + xn) c' (l1 ++ l2) → Below base w w' → (a' = none → sa = none) → w.grownBy w' (Value.slice sa sn sc).ownBlock → K (a.put o.dst (.slice a' (sn + xn) c')) w') : o.wp P a w K Q := by
  obtain ⟨ht, i, z, hi, hz, hsize, hby, hzs⟩ := hI
  obtain ⟨hl1, how⟩ := hown
  obtain ⟨hl2, hc1, hc2, hcn, hcells⟩ := hr
  have hlt := fun k hk => (how.lt k hk).1
  have hsrc : (xa = none ∧ xn = 0 ∧ xc = 0) ∨ ∃ ad, xa = some ad ∧ ∀ j y, l2[j]? = some y → w.cell? (ad.add j) = some (enc y) := by
    rcases hcells with h0 | ⟨b, off, rfl, hbk, hc⟩
    · cases xa with
      | none => exact .inl ⟨rfl, h0, hcn rfl⟩
      | some ad =>
        refine .inr ⟨ad, rfl, fun j y hy => ?_⟩
        obtain rfl : l2 = [] := List.eq_nil_of_length_eq_zero (by omega)
        simp at hy
    · exact .inr ⟨_, rfl, fun j y hy => by rw [addr_add]; exact hc j y hy⟩
  rcases hsrc with ⟨rfl, rfl, rfl⟩ | ⟨ad, rfl, hc⟩
  · obtain rfl : l2 = [] := List.eq_nil_of_length_eq_zero hl2
    have hrun := run_append_owned_none (P := P) (w := w) base t o.type e i 1 ht hi _ sn _ how
    have := h sa sc w ⟨by simpa using hl1, by simpa using how⟩ (Below.refl _ _) (fun h => h) ⟨rfl, rfl, rfl, Nat.le_refl _, fun _ _ _ => rfl⟩
    unfold Oper.wp
    simp [execOp, ho, resolve, invoke, builtin, hs, hx, hrun, Result.andThen]
    exact this
  · refine wp_append_own w s x t ho base e i z 1 bytes ht hi hz hsize hby hzs (by decide) _ sn _ hs how ad xn xc (l2.map enc) hx (by simpa using hl2) ?_ ?_ (by unfold maxLen; omega) hfit hbase ?_
    · intro j u hu
      rw [List.getElem?_map] at hu
      obtain ⟨y, hy, rfl⟩ := Option.map_eq_some_iff.1 hu
      exact hc j y hy
    · intro u hu
      obtain ⟨y, _, rfl⟩ := List.mem_map.1 hu
      exact h1 y
    · intro v' w' hv' hg hn
      rcases hv'.2 with ⟨rfl, h0⟩ | ⟨g', cap', cur, rfl, rest'⟩
      · obtain ⟨h5, h6⟩ := hn.1 rfl
        subst h6
        have hh := h none 0 w' ⟨by simp; omega, by rw [← List.map_append] at hv'; rw [h0] at hv' ⊢; exact hv'⟩ ((Below.refl _ _).grown hg hbase hlt) (fun _ => by simp at h5; exact h5.1) hg
        rw [h0] at hh
        exact hh
      · exact h _ cap' w' ⟨by simp; omega, by rw [← List.map_append] at hv'; exact hv'⟩ ((Below.refl _ _).grown hg hbase hlt) (fun h => by cases h) hg

theorem wpList_appOwn {enc : α → Value} (hgd : o.guard = none) {s x : Operand} {t : TypeId} (ho : o.op = .call { callee := .builtin .append, args := #[s, x], argTypes := #[t, t] })
    {base : Nat} {e : TypeId} {bytes : Nat} (hI : OneInfo P t e bytes) {sa xa : Option Addr} {sn sc xn xc : Nat} (hs : a.eval s = .slice sa sn sc) (hx : a.eval x = .slice xa xn xc)
    {l1 l2 : List α} (hown : Own enc e w base sa sn sc l1) (hr : Rd enc w xa xn xc l2) (h1 : ∀ y, (enc y).oneCell' = true)
    (hfit : (sn + xn) * bytes ≤ 140737488355328) (hfit2 : sn + xn ≤ 140737488355328) (hbase : base ≤ w.heap.size)
    (h : ∀ a' c' w', Own enc e w' base a' (sn + xn) c' (l1 ++ l2) → Below base w w' → (a' = none → sa = none) → w.grownBy w' (Value.slice sa sn sc).ownBlock → wpList P ops Q rest (a.put o.dst (.slice a' (sn + xn) c')) w') : wpList P ops Q (o :: rest) a w :=
  wpList_plain hgd fun _ hK => wp_appOwn ho hI hs hx hown hr h1 hfit hfit2 hbase fun a' c' w' h2 h3 h4 h5 => hK _ _ (h a' c' w' h2 h3 h4 h5)

/-- The same, of a guarded append whose guard says yes. -/
theorem wpList_appOwnG {enc : α → Value} (hw : Region.wanted o (yielded ops a.tmps) = true) {s x : Operand} {t : TypeId} (ho : o.op = .call { callee := .builtin .append, args := #[s, x], argTypes := #[t, t] })
    {base : Nat} {e : TypeId} {bytes : Nat} (hI : OneInfo P t e bytes) {sa xa : Option Addr} {sn sc xn xc : Nat} (hs : a.eval s = .slice sa sn sc) (hx : a.eval x = .slice xa xn xc)
    {l1 l2 : List α} (hown : Own enc e w base sa sn sc l1) (hr : Rd enc w xa xn xc l2) (h1 : ∀ y, (enc y).oneCell' = true)
    (hfit : (sn + xn) * bytes ≤ 140737488355328) (hfit2 : sn + xn ≤ 140737488355328) (hbase : base ≤ w.heap.size)
    (h : ∀ a' c' w', Own enc e w' base a' (sn + xn) c' (l1 ++ l2) → Below base w w' → (a' = none → sa = none) → w.grownBy w' (Value.slice sa sn sc).ownBlock → wpList P ops Q rest (a.put o.dst (.slice a' (sn + xn) c')) w') : wpList P ops Q (o :: rest) a w :=
  BigFrame.wpList_want hw fun _ hK => wp_appOwn ho hI hs hx hown hr h1 hfit hfit2 hbase fun a' c' w' h2 h3 h4 h5 => hK _ _ (h a' c' w' h2 h3 h4 h5)

/-- The same, as a step of a region that draws its order. -/
theorem step_appOwn {enc : α → Value} {K : Act → World → Prop} {E : Prop} (hgd : o.guard = none) {s x : Operand} {t : TypeId} (ho : o.op = .call { callee := .builtin .append, args := #[s, x], argTypes := #[t, t] })
    {base : Nat} {e : TypeId} {bytes : Nat} (hI : OneInfo P t e bytes) {sa xa : Option Addr} {sn sc xn xc : Nat} (hs : a.eval s = .slice sa sn sc) (hx : a.eval x = .slice xa xn xc)
    {l1 l2 : List α} (hown : Own enc e w base sa sn sc l1) (hr : Rd enc w xa xn xc l2) (h1 : ∀ y, (enc y).oneCell' = true)
    (hfit : (sn + xn) * bytes ≤ 140737488355328) (hfit2 : sn + xn ≤ 140737488355328) (hbase : base ≤ w.heap.size)
    (h : ∀ a' c' w', Own enc e w' base a' (sn + xn) c' (l1 ++ l2) → Below base w w' → (a' = none → sa = none) → w.grownBy w' (Value.slice sa sn sc).ownBlock → K (a.put o.dst (.slice a' (sn + xn) c')) w') :
    if Region.wanted o (yielded ops a.tmps) = true then Oper.wp P o a w K Q else E := by
  have hw : Region.wanted o (yielded ops a.tmps) = true := by simp [Region.wanted, hgd]
  rw [if_pos hw]
  exact wp_appOwn ho hI hs hx hown hr h1 hfit hfit2 hbase h

/-- make of n elements, n a variable: the call owns n zero values. -/
theorem wpList_makeOwn {enc : α → Value} (x0 : α) (hgd : o.guard = none) {l c : Operand} {t : TypeId} (hop : o.op = Op.makeSlice t l c)
    {base : Nat} {e : TypeId} {bytes : Nat} (hI : OneInfo P t e bytes) (hz0 : (P.info? e).map (fun i => i.zero) = some (some (enc x0))) (h1 : (enc x0).cells = #[enc x0])
    {kl kc : IntKind} {L C : Int} {n : Nat} (hl : a.eval l = .int kl L) (hc : a.eval c = .int kc C) (hL : L = (n : Int)) (hC : C = (n : Int)) (b2 : bytes * n ≤ 281474976710656) (b3 : n ≤ 281474976710656) (b4 : base ≤ w.heap.size)
    (h : ∀ w', Own enc e w' base (some ⟨w.heap.size, 0, none⟩) n n (List.replicate n x0) → Below base w w' → w'.heap.size = w'.heap.size → w.grownBy w' none → wpList P ops Q rest (a.put o.dst (.slice (some ⟨w.heap.size, 0, none⟩) n n)) w') : wpList P ops Q (o :: rest) a w := by
  obtain ⟨ht, i, z, hi, hz, hsize, hby, hzs⟩ := hI
  have hze : z = enc x0 := by
    rw [hi] at hz0
    simp only [Option.map_some, Option.some.injEq] at hz0
    rw [hz] at hz0
    exact Option.some.inj hz0
  subst hze
  refine wpList_make_full w hgd l c t hop base e i (enc x0) 1 ht hi hz hsize kl kc L C n hl hc hL hC (by rw [hby]; exact b2) (by unfold maxLen; omega) b4 fun w' hw hg => ?_
  rw [h1, Nat.mul_one, toList_madeCells_one] at hw
  refine h w' ⟨by simp, by rw [List.map_replicate]; exact hw⟩ ((Below.refl _ _).grown hg b4 (fun k hk => by cases hk)) rfl hg

theorem elem_of {P : Program} {t e : TypeId} (h : P.underlying t = some (.slice e)) : P.elem t = e := by simp [Program.elem, h]

theorem sizeOf_one {P : Program} {t e : TypeId} {bytes : Nat} (hI : OneInfo P t e bytes) (w : World) : (sizeOf (P.elem t)).run P w = .ok 1 w := by
  obtain ⟨ht, i, z, hi, hz, hsize, hby, hzs⟩ := hI
  rw [elem_of ht]
  simp [sizeOf, typeInfo, hi, hsize]

/-! A cut of a slice by both ends, from a place on, up to a place: it reads as the cut list; its address is not looked into. -/
theorem wp_cut {enc : α → Value} {K : Act → World → Prop} {t : TypeId} {x lo hi : Operand} (ho : o.op = .slice t x (some lo) (some hi) none)
    {e : TypeId} {bytes : Nat} (hI : OneInfo P t e bytes) {xa : Option Addr} {xn xc : Nat} (hx : a.eval x = .slice xa xn xc) {kl kh : IntKind} {il ih : Int} (hlo : a.eval lo = .int kl il) (hhi : a.eval hi = .int kh ih)
    {l : List α} (hr : Rd enc w xa xn xc l) (h0 : 0 ≤ il) (h1 : il ≤ ih) (h2 : ih ≤ xn)
    (h : ∀ a', Rd enc w a' (ih.toNat - il.toNat) (xc - il.toNat) ((l.drop il.toNat).take (ih.toNat - il.toNat)) → (∀ w', Rd enc w' xa xn xc l → Rd enc w' a' (ih.toNat - il.toNat) (xc - il.toNat) ((l.drop il.toNat).take (ih.toNat - il.toNat))) →
      K (a.put o.dst (.slice a' (ih.toNat - il.toNat) (xc - il.toNat))) w) : o.wp P a w K Q := by
  have hc : xn ≤ xc := hr.2.1
  have ht : P.underlying t = some (.slice (P.elem t)) := by rw [elem_of hI.1]; exact hI.1
  have hrun := run_slice_lh (P := P) (w := w) t xa xn xc ht kl kh il ih h0 h1 (by omega)
  rw [sizeOf_one hI] at hrun
  have hat := run_sliceAt_slice (P := P) (w := w) t (.slice xa xn xc) (some (.int kl il)) (some (.int kh ih)) none ht
  unfold Oper.wp
  simp only [execOp, ho, hx, hlo, hhi, Option.map_some, Option.map_none, Sem.run_bind, hat, hrun, Result.andThen, Sem.run_pure, sliced]
  exact h _ (hr.sliced il.toNat ih.toNat (by omega) (by omega)) (fun w' h' => h'.sliced il.toNat ih.toNat (by omega) (by omega))

theorem wpList_cut {enc : α → Value} (hgd : o.guard = none) {t : TypeId} {x lo hi : Operand} (ho : o.op = .slice t x (some lo) (some hi) none)
    {e : TypeId} {bytes : Nat} (hI : OneInfo P t e bytes) {xa : Option Addr} {xn xc : Nat} (hx : a.eval x = .slice xa xn xc) {kl kh : IntKind} {il ih : Int} (hlo : a.eval lo = .int kl il) (hhi : a.eval hi = .int kh ih)
    {l : List α} (hr : Rd enc w xa xn xc l) (h0 : 0 ≤ il) (h1 : il ≤ ih) (h2 : ih ≤ xn)
    (h : ∀ a', Rd enc w a' (ih.toNat - il.toNat) (xc - il.toNat) ((l.drop il.toNat).take (ih.toNat - il.toNat)) → (∀ w', Rd enc w' xa xn xc l → Rd enc w' a' (ih.toNat - il.toNat) (xc - il.toNat) ((l.drop il.toNat).take (ih.toNat - il.toNat))) →
      wpList P ops Q rest (a.put o.dst (.slice a' (ih.toNat - il.toNat) (xc - il.toNat))) w) : wpList P ops Q (o :: rest) a w :=
  wpList_plain hgd fun _ hK => wp_cut ho hI hx hlo hhi hr h0 h1 h2 fun a' h1' h2' => hK _ _ (h a' h1' h2')

theorem wpList_cutG {enc : α → Value} (hw : Region.wanted o (yielded ops a.tmps) = true) {t : TypeId} {x lo hi : Operand} (ho : o.op = .slice t x (some lo) (some hi) none)
    {e : TypeId} {bytes : Nat} (hI : OneInfo P t e bytes) {xa : Option Addr} {xn xc : Nat} (hx : a.eval x = .slice xa xn xc) {kl kh : IntKind} {il ih : Int} (hlo : a.eval lo = .int kl il) (hhi : a.eval hi = .int kh ih)
    {l : List α} (hr : Rd enc w xa xn xc l) (h0 : 0 ≤ il) (h1 : il ≤ ih) (h2 : ih ≤ xn)
    (h : ∀ a', Rd enc w a' (ih.toNat - il.toNat) (xc - il.toNat) ((l.drop il.toNat).take (ih.toNat - il.toNat)) → (∀ w', Rd enc w' xa xn xc l → Rd enc w' a' (ih.toNat - il.toNat) (xc - il.toNat) ((l.drop il.toNat).take (ih.toNat - il.toNat))) →
      wpList P ops Q rest (a.put o.dst (.slice a' (ih.toNat - il.toNat) (xc - il.toNat))) w) : wpList P ops Q (o :: rest) a w :=
  BigFrame.wpList_want hw fun _ hK => wp_cut ho hI hx hlo hhi hr h0 h1 h2 fun a' h1' h2' => hK _ _ (h a' h1' h2')

theorem wp_cutL {enc : α → Value} {K : Act → World → Prop} {t : TypeId} {x lo : Operand} (ho : o.op = .slice t x (some lo) none none)
    {e : TypeId} {bytes : Nat} (hI : OneInfo P t e bytes) {xa : Option Addr} {xn xc : Nat} (hx : a.eval x = .slice xa xn xc) {kl : IntKind} {il : Int} (hlo : a.eval lo = .int kl il)
    {l : List α} (hr : Rd enc w xa xn xc l) (h0 : 0 ≤ il) (h1 : il ≤ xn)
    (h : ∀ a', Rd enc w a' (xn - il.toNat) (xc - il.toNat) (l.drop il.toNat) → (∀ w', Rd enc w' xa xn xc l → Rd enc w' a' (xn - il.toNat) (xc - il.toNat) (l.drop il.toNat)) →
      K (a.put o.dst (.slice a' (xn - il.toNat) (xc - il.toNat))) w) : o.wp P a w K Q := by
  have ht : P.underlying t = some (.slice (P.elem t)) := by rw [elem_of hI.1]; exact hI.1
  have hrun := run_slice_l (P := P) (w := w) t xa xn xc ht kl il h0 h1
  rw [sizeOf_one hI] at hrun
  have hat := run_sliceAt_slice (P := P) (w := w) t (.slice xa xn xc) (some (.int kl il)) none none ht
  unfold Oper.wp
  simp only [execOp, ho, hx, hlo, Option.map_some, Option.map_none, Sem.run_bind, hat, hrun, Result.andThen, Sem.run_pure, sliced]
  have hs : ∀ w', Rd enc w' xa xn xc l → Rd enc w' (if xc = il.toNat then xa else xa.map (·.add (il.toNat * 1))) (xn - il.toNat) (xc - il.toNat) (l.drop il.toNat) := fun w' h' => by
    have hs := h'.sliced il.toNat xn (by omega) (by omega)
    rw [List.take_of_length_le (by have := h'.1; simp; omega)] at hs
    exact hs
  exact h _ (hs w hr) hs

theorem wpList_cutL {enc : α → Value} (hgd : o.guard = none) {t : TypeId} {x lo : Operand} (ho : o.op = .slice t x (some lo) none none)
    {e : TypeId} {bytes : Nat} (hI : OneInfo P t e bytes) {xa : Option Addr} {xn xc : Nat} (hx : a.eval x = .slice xa xn xc) {kl : IntKind} {il : Int} (hlo : a.eval lo = .int kl il)
    {l : List α} (hr : Rd enc w xa xn xc l) (h0 : 0 ≤ il) (h1 : il ≤ xn)
    (h : ∀ a', Rd enc w a' (xn - il.toNat) (xc - il.toNat) (l.drop il.toNat) → (∀ w', Rd enc w' xa xn xc l → Rd enc w' a' (xn - il.toNat) (xc - il.toNat) (l.drop il.toNat)) →
      wpList P ops Q rest (a.put o.dst (.slice a' (xn - il.toNat) (xc - il.toNat))) w) : wpList P ops Q (o :: rest) a w :=
  wpList_plain hgd fun _ hK => wp_cutL ho hI hx hlo hr h0 h1 fun a' h1' h2' => hK _ _ (h a' h1' h2')

theorem wpList_cutLG {enc : α → Value} (hw : Region.wanted o (yielded ops a.tmps) = true) {t : TypeId} {x lo : Operand} (ho : o.op = .slice t x (some lo) none none)
    {e : TypeId} {bytes : Nat} (hI : OneInfo P t e bytes) {xa : Option Addr} {xn xc : Nat} (hx : a.eval x = .slice xa xn xc) {kl : IntKind} {il : Int} (hlo : a.eval lo = .int kl il)
    {l : List α} (hr : Rd enc w xa xn xc l) (h0 : 0 ≤ il) (h1 : il ≤ xn)
    (h : ∀ a', Rd enc w a' (xn - il.toNat) (xc - il.toNat) (l.drop il.toNat) → (∀ w', Rd enc w' xa xn xc l → Rd enc w' a' (xn - il.toNat) (xc - il.toNat) (l.drop il.toNat)) →
      wpList P ops Q rest (a.put o.dst (.slice a' (xn - il.toNat) (xc - il.toNat))) w) : wpList P ops Q (o :: rest) a w :=
  BigFrame.wpList_want hw fun _ hK => wp_cutL ho hI hx hlo hr h0 h1 fun a' h1' h2' => hK _ _ (h a' h1' h2')

theorem wp_cutH {enc : α → Value} {K : Act → World → Prop} {t : TypeId} {x hi : Operand} (ho : o.op = .slice t x none (some hi) none)
    {e : TypeId} {bytes : Nat} (hI : OneInfo P t e bytes) {xa : Option Addr} {xn xc : Nat} (hx : a.eval x = .slice xa xn xc) {kh : IntKind} {ih : Int} (hhi : a.eval hi = .int kh ih)
    {l : List α} (hr : Rd enc w xa xn xc l) (h0 : 0 ≤ ih) (h1 : ih ≤ xn)
    (h : ∀ a', Rd enc w a' ih.toNat xc (l.take ih.toNat) → (∀ w', Rd enc w' xa xn xc l → Rd enc w' a' ih.toNat xc (l.take ih.toNat)) →
      K (a.put o.dst (.slice a' ih.toNat xc)) w) : o.wp P a w K Q := by
  have hc : xn ≤ xc := hr.2.1
  have ht : P.underlying t = some (.slice (P.elem t)) := by rw [elem_of hI.1]; exact hI.1
  have hrun := run_slice_h (P := P) (w := w) t xa xn xc ht kh ih h0 (by omega)
  rw [sizeOf_one hI] at hrun
  have hat := run_sliceAt_slice (P := P) (w := w) t (.slice xa xn xc) none (some (.int kh ih)) none ht
  unfold Oper.wp
  simp only [execOp, ho, hx, hhi, Option.map_some, Option.map_none, Sem.run_bind, hat, hrun, Result.andThen, Sem.run_pure, sliced]
  have hs : ∀ w', Rd enc w' xa xn xc l → Rd enc w' (if xc = 0 then xa else xa.map (·.add (0 * 1))) ih.toNat xc (l.take ih.toNat) := fun w' h' => by
    have hs := h'.sliced 0 ih.toNat (by omega) (by omega)
    simp only [List.drop_zero, Nat.sub_zero] at hs
    exact hs
  exact h _ (hs w hr) hs

theorem wpList_cutH {enc : α → Value} (hgd : o.guard = none) {t : TypeId} {x hi : Operand} (ho : o.op = .slice t x none (some hi) none)
    {e : TypeId} {bytes : Nat} (hI : OneInfo P t e bytes) {xa : Option Addr} {xn xc : Nat} (hx : a.eval x = .slice xa xn xc) {kh : IntKind} {ih : Int} (hhi : a.eval hi = .int kh ih)
    {l : List α} (hr : Rd enc w xa xn xc l) (h0 : 0 ≤ ih) (h1 : ih ≤ xn)
    (h : ∀ a', Rd enc w a' ih.toNat xc (l.take ih.toNat) → (∀ w', Rd enc w' xa xn xc l → Rd enc w' a' ih.toNat xc (l.take ih.toNat)) →
      wpList P ops Q rest (a.put o.dst (.slice a' ih.toNat xc)) w) : wpList P ops Q (o :: rest) a w :=
  wpList_plain hgd fun _ hK => wp_cutH ho hI hx hhi hr h0 h1 fun a' h1' h2' => hK _ _ (h a' h1' h2')

theorem wpList_cutHG {enc : α → Value} (hw : Region.wanted o (yielded ops a.tmps) = true) {t : TypeId} {x hi : Operand} (ho : o.op = .slice t x none (some hi) none)
    {e : TypeId} {bytes : Nat} (hI : OneInfo P t e bytes) {xa : Option Addr} {xn xc : Nat} (hx : a.eval x = .slice xa xn xc) {kh : IntKind} {ih : Int} (hhi : a.eval hi = .int kh ih)
    {l : List α} (hr : Rd enc w xa xn xc l) (h0 : 0 ≤ ih) (h1 : ih ≤ xn)
    (h : ∀ a', Rd enc w a' ih.toNat xc (l.take ih.toNat) → (∀ w', Rd enc w' xa xn xc l → Rd enc w' a' ih.toNat xc (l.take ih.toNat)) →
      wpList P ops Q rest (a.put o.dst (.slice a' ih.toNat xc)) w) : wpList P ops Q (o :: rest) a w :=
  BigFrame.wpList_want hw fun _ hK => wp_cutH ho hI hx hhi hr h0 h1 fun a' h1' h2' => hK _ _ (h a' h1' h2')

/-- The string of these bytes. -/
def bstr (l : List Int) : ByteArray := ⟨(l.map fun n => UInt8.ofNat n.toNat).toArray⟩

theorem bstr_fold (l : List Int) : ∀ r : ByteArray, l.foldl (fun r n => r.push (UInt8.ofNat n.toNat)) r = ⟨r.data ++ (l.map fun n => UInt8.ofNat n.toNat).toArray⟩ := by
  induction l with
  | nil => intro r; simp
  | cons c l ih =>
    intro r
    rw [List.foldl_cons, ih]
    simp [ByteArray.push]

theorem bstr_toList (l : List Int) : (bstr l).toList = l.map fun n => UInt8.ofNat n.toNat := by
  unfold bstr; rw [ByteArray.toList_mk]

theorem byte_inj {x y : Int} (hx : 0 ≤ x ∧ x ≤ 255) (hy : 0 ≤ y ∧ y ≤ 255) (h : UInt8.ofNat x.toNat = UInt8.ofNat y.toNat) : x = y := by
  have := congrArg UInt8.toNat h
  simp only [UInt8.toNat_ofNat'] at this
  omega

theorem bytes_inj : ∀ {a b : List Int}, IsB a → IsB b → (a.map fun n => UInt8.ofNat n.toNat) = (b.map fun n => UInt8.ofNat n.toNat) → a = b
  | [], [], _, _, _ => rfl
  | [], _ :: _, _, _, h => by simp at h
  | _ :: _, [], _, _, h => by simp at h
  | x :: a, y :: b, ha, hb, h => by
    simp only [List.map_cons, List.cons.injEq] at h
    rw [byte_inj (ha x List.mem_cons_self) (hb y List.mem_cons_self) h.1, bytes_inj (fun z hz => ha z (List.mem_cons_of_mem _ hz)) (fun z hz => hb z (List.mem_cons_of_mem _ hz)) h.2]

/-- Two texts of bytes are one where the lists are. -/
theorem bstr_same {a b : List Int} (ha : IsB a) (hb : IsB b) : ((bstr a).toList == (bstr b).toList) = decide (a = b) := by
  rw [bstr_toList, bstr_toList]
  by_cases h : a = b
  · subst h; simp
  · rw [decide_eq_false h, beq_eq_false_iff_ne]
    exact fun e => h (bytes_inj ha hb e)

/-- A slice of bytes turned to a string: the run. -/
theorem run_bytesStr {src dst : TypeId} {e : TypeId} (hs : P.underlying src = some (.slice e)) (he : P.underlying e = some (.int .u8)) (hd : P.underlying dst = some .string)
    {xa : Option Addr} {xn xc : Nat} {l : List Int} (hr : RdB w xa xn xc l) : (convert src dst (.slice xa xn xc)).run P w = .ok (.string (bstr l)) w := by
  rw [run_convert_bytes_string (P := P) w src dst e xa xn xc hs he hd]
  obtain ⟨_, h1, h2, h3, hn, h4⟩ := hr
  rcases h4 with h4 | ⟨b, off, rfl, hlt, hcell⟩
  · obtain rfl : l = [] := List.eq_nil_of_length_eq_zero (by omega)
    subst h4
    cases xa with
    | none => rfl
    | some ad =>
      have hl := run_loadCells_list (P := P) (w := w) ad [] (fun j v hv => by simp at hv)
      have := run_bytesToString (P := P) w ad 0 xc [] hl
      rw [this]; rfl
  · have hl := run_loadCells_list (P := P) (w := w) ⟨b, off, none⟩ (l.map (Value.int .u8)) (fun j v hv => by
      rw [List.getElem?_map] at hv
      obtain ⟨y, hy, rfl⟩ := Option.map_eq_some_iff.1 hv
      rw [addr_add]
      exact hcell j y hy)
    rw [List.length_map, h1] at hl
    have := run_bytesToString (P := P) w ⟨b, off, none⟩ xn xc l hl
    rw [this, bstr_fold]
    simp [bstr]

/-- A slice of bytes turned to a string: the step. -/
theorem wpList_bytesString (hgd : o.guard = none) {src dst : TypeId} {x : Operand} (ho : o.op = .convert src dst x)
    {e : TypeId} (hs : P.underlying src = some (.slice e)) (he : P.underlying e = some (.int .u8)) (hd : P.underlying dst = some .string)
    {xa : Option Addr} {xn xc : Nat} (hx : a.eval x = .slice xa xn xc) {l : List Int} (hr : RdB w xa xn xc l)
    (h : wpList P ops Q rest (a.put o.dst (.string (bstr l))) w) : wpList P ops Q (o :: rest) a w := by
  have hc := run_bytesStr (P := P) (w := w) hs he hd hr
  refine wpList_plain hgd fun K hK => ?_
  unfold Oper.wp
  simp only [execOp, ho, hx, Sem.run_bind, hc, Result.andThen, Sem.run_pure]
  exact hK _ _ h
end

/-- A constant text turned to bytes: its block bears a mark. -/
theorem RdB.marked (w : World) (l : List Int) (e : TypeId) (fr : Nat × Nat) (cs : Array Value) (n c : Nat) (hcs : cs = (l.map (Value.int .u8)).toArray) (hn : l.length = n) (hc : n ≤ c) (hm : c ≤ maxLen) (hb : IsB l) : RdB (w.alloc (.cells cs e fr)) (some ⟨w.heap.size, 0, none⟩) n c l := by
  subst hcs
  refine ⟨hb, hn, hc, hm, fun h => by (cases h), .inr ⟨w.heap.size, 0, rfl, by simp, fun i x hx => ?_⟩⟩
  rw [Nat.zero_add, World.cell?_alloc_mark]
  simp [hx]

theorem cellAt {α : Type} {enc : α → Value} {w : World} {a : Option Addr} {len cap : Nat} {l : List α} (h : Rd enc w a len cap l) (i : Nat) (hi : i < l.length) : ∃ b off, a = some ⟨b, off, none⟩ ∧ w.cell? ⟨b, off + i, none⟩ = some (enc l[i]) := by
  obtain ⟨b, off, ha, _, hc⟩ := h.at (by have := h.1; omega)
  exact ⟨b, off, ha, hc i _ (List.getElem?_eq_getElem hi)⟩

/-! ### A struct of the call's own: its block known whole -/
theorem cell_of_heap {w : World} {S : Nat} {cs : Array Value} {T : TypeId} (h : w.heap[S]? = some (.cells cs T (0, 0))) (j : Nat) (v : Value) (hj : cs[j]? = some v) : w.cell? ⟨S, j, none⟩ = some v := by
  rw [cell_of_row w S j cs T (0, 0) h, hj]
theorem free_of_heap {w : World} {S : Nat} {cs : Array Value} {T : TypeId} (h : w.heap[S]? = some (.cells cs T (0, 0))) (j : Nat) : w.frozen? ⟨S, j, none⟩ = false := frozen_of_row w S j cs T h
theorem lt_of_heap {w : World} {S : Nat} {o : Obj} (h : w.heap[S]? = some o) : S < w.heap.size := (Array.getElem?_eq_some_iff.1 h).1

theorem keep_set {w : World} {S T i j : Nat} {u v : Value} (hne : i ≠ j) (h : w.cell? ⟨S, i, none⟩ = some v) : (w.setCell ⟨T, j, none⟩ u).cell? ⟨S, i, none⟩ = some v := by
  have hn : (⟨T, j, none⟩ : Addr) ≠ ⟨S, i, none⟩ := fun e => hne (by cases e; rfl)
  exact (World.cell?_setCell_other w ⟨T, j, none⟩ ⟨S, i, none⟩ u hn).trans h

theorem grown_refl (w : World) (r : Option Nat) : w.grownBy w r := ⟨rfl, rfl, rfl, Nat.le_refl _, fun _ _ _ => rfl⟩
theorem grown_trans {a b c : World} {r : Option Nat} (h : a.grownBy b r) (k : b.grownBy c r) : a.grownBy c r :=
  ⟨k.os.trans h.os, k.tape.trans h.tape, k.output.trans h.output, Nat.le_trans h.size k.size, fun i hi hr => (k.block i (Nat.lt_of_lt_of_le hi h.size) hr).trans (h.block i hi hr)⟩
theorem grown_setCell (w : World) (S j : Nat) (v : Value) : w.grownBy (w.setCell ⟨S, j, none⟩ v) (some S) :=
  ⟨rfl, rfl, rfl, by simp, fun k _ hr => heap_setCell_other w ⟨S, j, none⟩ k v (fun e => hr (by simp [e]))⟩
theorem grown_drew {a b : World} {r : Option Nat} (h : a.grownBy b r) : a.grownBy b.drew r := ⟨h.os, h.tape, h.output, h.size, h.block⟩
theorem grown_drewN {a b : World} {r : Option Nat} (h : a.grownBy b r) (n : Nat) : a.grownBy (b.drewN n) r := ⟨h.os, h.tape, h.output, h.size, h.block⟩
theorem grown_below {a b : World} (r : Option Nat) (h : Below a.heap.size a b) : a.grownBy b r := ⟨h.os, h.tape, h.output, h.size, fun k hk _ => h.block k hk⟩
theorem below_grown {a b : World} {S B : Nat} (h : a.grownBy b (some S)) (hB : B ≤ S) (hs : B ≤ a.heap.size) : Below B a b := (Below.refl _ _).grown h hs (fun k hk => by cases hk; exact hB)

section
variable {α : Type}
theorem Rd.grown {enc : α → Value} {w w' : World} {a : Option Addr} {len cap : Nat} {l : List α} {r : Option Nat} (h : Rd enc w a len cap l) (hg : w.grownBy w' r) (hne : ∀ x, a = some x → some x.block ≠ r) : Rd enc w' a len cap l := by
  obtain ⟨h1, h2, h3, hn, h4⟩ := h
  refine ⟨h1, h2, h3, hn, ?_⟩
  rcases h4 with h4 | ⟨b, off, rfl, hlt, hc⟩
  · exact .inl h4
  · exact .inr ⟨b, off, rfl, Nat.lt_of_lt_of_le hlt hg.size, hc.mono (hg.block b hlt (hne _ rfl))⟩
theorem Own.grown {enc : α → Value} {e : TypeId} {w w' : World} {base : Nat} {a : Option Addr} {len cap : Nat} {l : List α} {r : Option Nat} (h : Own enc e w base a len cap l) (hg : w.grownBy w' r) (hne : ∀ x, a = some x → some x.block ≠ r) : Own enc e w' base a len cap l := by
  obtain ⟨hl, h1, h2⟩ := h
  refine ⟨hl, h1, ?_⟩
  rcases h2 with h2 | ⟨g, c, cur, hv, hbg, hg', rest⟩
  · exact .inl h2
  · cases hv
    exact .inr ⟨g, _, cur, rfl, hbg, by rw [hg.block g (Array.getElem?_eq_some_iff.1 hg').1 (hne _ rfl)]; exact hg', rest⟩
end
theorem RdB.grown {w w' : World} {a : Option Addr} {len cap : Nat} {l : List Int} {r : Option Nat} (h : RdB w a len cap l) (hg : w.grownBy w' r) (hne : ∀ x, a = some x → some x.block ≠ r) : RdB w' a len cap l := ⟨h.1, h.2.grown hg hne⟩

/-! ### What came in -/
theorem rdB_open {H : Type} {enc : TypeId × Value → H} {P : Program} {w : World} {base : Nat} {spare : Nat → Bool} {held : Bool} {fuel : Nat} {t e : TypeId} {x : DataW H × List MemPlace} {a : Option Addr} {len cap : Nat}
    (ht : P.underlying t = some (.slice e)) (he : P.underlying e = some (.int .u8)) (hc : P.cellsOf e = 1) (h : DataW.trod enc P w base spare held fuel t (Value.slice a len cap).cells.toList = some x) : ∃ l, RdB w a len cap l := by
  rcases open_ints ht he hc h with ⟨hcs, _⟩ | ⟨ad, l, c, zs, hcs, _, hl, hm, hz, _, hcell, hwz⟩
  · simp [Value.cells] at hcs
    obtain ⟨rfl, rfl, rfl⟩ := hcs
    exact ⟨[], IsB.nil, rfl, Nat.le_refl _, Nat.zero_le _, fun _ => rfl, .inl rfl⟩
  · simp [Value.cells] at hcs
    obtain ⟨rfl, rfl, rfl⟩ := hcs
    have hzl : len ≤ zs.length := by rw [hz]; split <;> omega
    refine ⟨zs.take len, fun y hy => bounds_u8 (hwz y (List.mem_of_mem_take hy)), by simp; omega, hl, hm, fun h => by (cases h), ?_⟩
    by_cases h0 : len = 0
    · exact .inl h0
    · right
      obtain ⟨b, off, spot⟩ := ad
      have hc0 := hcell 0 (by omega)
      have hspot : spot = none := by simpa [Addr.add] using World.cell?_spot hc0
      subst hspot
      refine ⟨b, off, rfl, World.block_lt_of_cell? w _ hc0, fun i y hy => ?_⟩
      rw [List.getElem?_take] at hy
      split at hy
      · have hi := (List.getElem?_eq_some_iff.1 hy).1
        have := hcell i hi
        rw [addr_add, List.getD_eq_getElem?_getD, hy] at this
        exact this
      · cases hy

theorem rdI_open {H : Type} {enc : TypeId × Value → H} {P : Program} {w : World} {base : Nat} {spare : Nat → Bool} {held : Bool} {fuel : Nat} {t e : TypeId} {k : IntKind} {x : DataW H × List MemPlace} {a : Option Addr} {len cap : Nat}
    (ht : P.underlying t = some (.slice e)) (he : P.underlying e = some (.int k)) (hc : P.cellsOf e = 1) (h : DataW.trod enc P w base spare held fuel t (Value.slice a len cap).cells.toList = some x) :
    ∃ l : List Int, (∀ y ∈ l, (Lit.int k y).wf = true) ∧ Rd (Value.int k) w a len cap l := by
  rcases open_ints ht he hc h with ⟨hcs, _⟩ | ⟨ad, l, c, zs, hcs, _, hl, hm, hz, _, hcell, hwz⟩
  · simp [Value.cells] at hcs
    obtain ⟨rfl, rfl, rfl⟩ := hcs
    exact ⟨[], fun y hy => by (cases hy), rfl, Nat.le_refl _, Nat.zero_le _, fun _ => rfl, .inl rfl⟩
  · simp [Value.cells] at hcs
    obtain ⟨rfl, rfl, rfl⟩ := hcs
    have hzl : len ≤ zs.length := by rw [hz]; split <;> omega
    refine ⟨zs.take len, fun y hy => hwz y (List.mem_of_mem_take hy), by simp; omega, hl, hm, fun h => by (cases h), ?_⟩
    by_cases h0 : len = 0
    · exact .inl h0
    · right
      obtain ⟨b, off, spot⟩ := ad
      have hc0 := hcell 0 (by omega)
      have hspot : spot = none := by simpa [Addr.add] using World.cell?_spot hc0
      subst hspot
      refine ⟨b, off, rfl, World.block_lt_of_cell? w _ hc0, fun i y hy => ?_⟩
      rw [List.getElem?_take] at hy
      split at hy
      · have hi := (List.getElem?_eq_some_iff.1 hy).1
        have := hcell i hi
        rw [addr_add, List.getD_eq_getElem?_getD, hy] at this
        exact this
      · cases hy

end Go.Proofs.Ytiobhgemjbjipaa
