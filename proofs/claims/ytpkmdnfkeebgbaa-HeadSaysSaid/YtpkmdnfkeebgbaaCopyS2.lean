/- A copy into the middle of a struct from a longer source. No program in sight; no condition. -/
import Derived.Test.YtpkmdnfkeebgbaaStruct2
namespace Go.Proofs.Ytpkmdnfkeebgbaa
open Go.ChangeShapes Go.WideShapes Go.ChangeAt Go.RowKit
set_option linter.unusedVariables false
set_option linter.unusedSimpArgs false
section
variable {P : Program} {w : World} {ops : Array Oper} {rest : List Oper} {o : Oper} {a : Act} {Q : Exit → Act → World → Prop}
theorem step_copyS2 {α : Type} {enc : α → Value} {K : Act → World → Prop} {E : Prop} (hgd : o.guard = none) {d s : Operand} {dT sT : TypeId} (ho : o.op = .call { callee := .builtin .copy, args := #[d, s], argTypes := #[dT, sT] })
    {e : TypeId} {bytes : Nat} (hI : OneInfo P dT e bytes) {g off dLen dCap : Nat} (hd : a.eval d = .slice (some ⟨g, off, none⟩) dLen dCap) {xa : Option Addr} {xn xc : Nat} (hs : a.eval s = .slice xa xn xc)
    {cur : List Value} {T : TypeId} (hg : w.heap[g]? = some (.cells cur.toArray T (0, 0))) {l2 : List α} (hr : Rd enc w xa xn xc l2) (hfit : off + dLen ≤ cur.length) (hle : dLen ≤ xn) (hpos : 0 < dLen) (h1 : ∀ y, (enc y).oneCell' = true)
    (h : ∀ w', Hid (w'.heap[g]? = some (.cells (splice cur off ((l2.take dLen).map enc)).toArray T (0, 0))) → Upd (· = g) w w' → K (a.put o.dst (goInt dLen)) w') :
    if Region.wanted o (yielded ops a.tmps) = true then Oper.wp P o a w K Q else E := by
  have hw : Region.wanted o (yielded ops a.tmps) = true := by simp [Region.wanted, hgd]
  rw [if_pos hw]
  obtain ⟨ht, i, z, hi, hz, hsize, hby, hzs⟩ := hI
  have hsz : (P.info? e).map (·.size) = some 1 := by rw [hi]; simp [hsize]
  obtain ⟨hl2, hc1, hc2, hcn, hcells⟩ := hr
  rcases hcells with h0' | ⟨b, o2, rfl, hbk, hc⟩
  · omega
  have hlt : (l2.take dLen).length = dLen := by simp; omega
  have hcsn : ((l2.take dLen).map enc).length = Nat.min xn dLen := by rw [List.length_map, hlt]; exact (Nat.min_eq_right hle).symm
  have hrun := run_copy_row (P := P) w dT sT o.type e g off dLen dCap ⟨b, o2, none⟩ xn xc cur.toArray T ((l2.take dLen).map enc) ht hsz hg hcsn (fun j v hv => by
    rw [List.getElem?_map] at hv
    obtain ⟨y, hy, rfl⟩ := Option.map_eq_some_iff.1 hv
    rw [addr_add]
    rw [List.getElem?_take] at hy
    split at hy
    · exact hc j y hy
    · cases hy) (by rw [List.length_map, hlt]; simpa using hfit) (fun v hv => by
    obtain ⟨y, _, rfl⟩ := List.mem_map.1 hv
    exact h1 y)
  have := h (w.setRow g (splice cur off ((l2.take dLen).map enc)).toArray) (setRow_heap w g _ _ T _ hg) ⟨rfl, rfl, rfl, by simp [World.setRow], fun k _ hk => setRow_other w g k _ hk⟩
  have e1 : (cur.toArray.toList.take off ++ (l2.take dLen).map enc ++ cur.toArray.toList.drop (off + ((l2.take dLen).map enc).length)).toArray = (splice cur off ((l2.take dLen).map enc)).toArray := by simp [splice]
  rw [e1, List.length_map, hlt] at hrun
  unfold Oper.wp
  simp only [execOp, ho, resolve, invoke, builtin, Sem.run_bind, Sem.run_pure, Result.andThen_ok, List.map_toArray, List.map_cons, List.map_nil, hd, hs, hrun]
  exact this
end
end Go.Proofs.Ytpkmdnfkeebgbaa
