/- Names (sixteen bytes): their type, where they lie. No condition. -/
import Derived.Test.YtpkmdnfkeebgbaaArrEq
import Derived.Test.YtpkmdnfkeebgbaaClone
namespace Go.Proofs.Ytpkmdnfkeebgbaa
open Go.ChangeShapes Go.WideShapes Go.ChangeAt Go.RowKit
set_option linter.unusedVariables false
set_option linter.unusedSimpArgs false

theorem RdB.mk2 {w : World} {a : Option Addr} {n c : Nat} {l : List Int} (h1 : IsB l) (h2 : Rd (Value.int .u8) w a n c l) : RdB w a n c l := ⟨h1, h2⟩
def U64 (v : Int) : Prop := 0 ≤ v ∧ v ≤ 18446744073709551615
theorem sizeOne {P : Program} {e : TypeId} (h : (P.info? e).map (·.size) = some 1) (w : World) : (sizeOf e).run P w = .ok 1 w := by
  cases hq : P.info? e with
  | none => simp [hq] at h
  | some i => have : i.size = 1 := by simpa [hq] using h
              simp [sizeOf, typeInfo, hq, this]
theorem Try.idT : BytesT Try.prog 26 16 := ⟨5, by kernel_rfl, by kernel_rfl, sizeOne (by kernel_rfl), by kernel_rfl, by kernel_rfl⟩
theorem AtB.mono {w w' : World} {b o : Nat} {B : List Int} (h : AtB w b o B) (hb : Below w.heap.size w w') : AtB w' b o B :=
  fun j v hv => bcell hb (World.block_lt_of_cell? w _ (h j v hv)) (h j v hv)

theorem AtB.rd {w : World} {S o n : Nat} {B : List Int} (h : AtB w S o B) (hn : B.length = n) (hS : S < w.heap.size) (hm : n ≤ 1000) : Rd (Value.int .u8) w (some ⟨S, o, none⟩) n n B :=
  ⟨hn, Nat.le_refl _, by unfold maxLen; omega, (fun h => by cases h), .inr ⟨S, o, rfl, hS, fun i y hy => h i _ (by rw [List.getElem?_map, hy]; rfl)⟩⟩
theorem Rd.lits {α : Type} (enc : α → Value) (e : TypeId) (w : World) (l : List α) (cs : Array Value) (n : Nat) (hcs : cs = (l.map enc).toArray) (hn : l.length = n) (hm : n ≤ 1000) : Rd enc (w.alloc (.cells cs e)) (some ⟨w.heap.size, 0, none⟩) n n l :=
  (Own.lit (base := 0) (e := e) l cs n hcs hn (Nat.zero_le _) (by unfold maxLen; omega)).rd
end Go.Proofs.Ytpkmdnfkeebgbaa
