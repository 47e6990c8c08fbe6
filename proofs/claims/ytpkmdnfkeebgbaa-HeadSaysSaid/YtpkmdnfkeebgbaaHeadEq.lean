/- A head is the same as itself. Conditions stand as premises. -/
import Derived.Test.YtpkmdnfkeebgbaaHeadRep
import Derived.Test.YtpkmdnfkeebgbaaIdT
namespace Go.Proofs.Ytpkmdnfkeebgbaa
open Go.ChangeShapes Go.WideShapes Go.ChangeAt Go.RowKit
set_option linter.unusedVariables false
set_option linter.unusedSimpArgs false

/-- A part of a struct: a number, or bytes. -/
def PartOK (P : Program) (xs : Array Value) (p : TypeId × Nat) : Prop :=
  (∃ k x, P.underlying p.1 = some (.int k) ∧ xs[p.2]? = some (.int k x)) ∨ (∃ n B, BytesT P p.1 n ∧ (∀ w, (sizeOf p.1).run P w = .ok n w) ∧ IsB B ∧ B.length = n ∧ xs.extract p.2 (p.2 + n) = (B.map (Value.int .u8)).toArray)
theorem eqFields_refl {P : Program} (w : World) (d : Nat) (xs : Array Value) : ∀ fs : List Field, (∀ p ∈ fs.map (fun f => (f.type, f.offset)), PartOK P xs p) → (Op.eqFields (d + 2) xs xs fs).run P w = .ok true w
  | [], _ => by simp [Op.eqFields]
  | f :: fs, h => by
    have ih := eqFields_refl w d xs fs (fun p hp => h p (List.mem_cons_of_mem _ hp))
    have h0 := h (f.type, f.offset) (List.mem_cons_self ..)
    have key : ∃ v, (part f.type xs f.offset).run P w = .ok v w ∧ (Op.equalIn (d + 2) f.type v v).run P w = .ok true w := by
      rcases h0 with ⟨k, x, hu, hx⟩ | ⟨n, B, hT, hs, hB, hl, hx⟩
      · refine ⟨.int k x, ?_, ?_⟩
        · simp only at hu hx
          simp [part, isAgg, run_underlying hu, hx]
        · rw [run_equalIn_int w (d + 1) f.type k k x x hu]; simp
      · refine ⟨.agg (B.map (Value.int .u8)).toArray, ?_, ?_⟩
        · obtain ⟨e, ht, _⟩ := hT
          simp only at ht hx hs
          have hs' := hs w
          simp [part, isAgg, run_underlying ht, hs', hx]
        · rw [run_equalIn_B hT d hB hB hl hl]; simp
    obtain ⟨v, h1, h2⟩ := key
    unfold Op.eqFields
    split
    · simp only [Sem.run_bind, h1, Result.andThen_ok, h2, Bool.not_true, Bool.false_eq_true, if_false]
      exact ih
    · exact ih
theorem headL_ids {co inc st : Int} {I Ns : List Int} {ta ti te : Int} (hI : I.length = 64) (k : Nat) (hk : k + 16 ≤ 64) : (headL co inc st I Ns ta ti te).toArray.extract (3 + k) (3 + k + 16) = ((idN I k).map (Value.int .u8)).toArray := by
  simp only [List.extract_toArray]
  congr 1
  unfold headL idN
  rw [List.extract_eq_take_drop, List.drop_append, List.drop_of_length_le (by simp), List.nil_append, List.drop_append_of_le_length (by simp [hI]; omega), List.take_append_of_le_length (by simp [hI]; omega)]
  simp only [List.length_cons, List.length_nil, List.map_take, List.map_drop]
  congr 1
  · omega
  · congr 1; omega
def headFs : List (TypeId × Nat) := [(24, 0), (24, 1), (3, 2), (26, 3 + 0), (26, 3 + 16), (26, 3 + 32), (26, 3 + 48)] ++ (List.range 21).map (fun k => (27, 67 + k)) ++ [(24, 67 + 21), (24, 68 + 21), (27, 69 + 21)]
theorem Try.headFs : (Try.prog.fieldsOf 29).toList.map (fun f => (f.type, f.offset)) = headFs := by kernel_rfl
theorem Try.idSz (w : World) : (sizeOf 26).run Try.prog w = .ok 16 w := by
  obtain ⟨d, hu, hd, hi⟩ := Try.idT.row
  cases hq : Try.prog.info? 26 with
  | none => simp [hq] at hi
  | some i => have : i.size = 16 := by simpa [hq] using hi
              simp [sizeOf, typeInfo, hq, this]
theorem headL_part {co inc st : Int} {I Ns : List Int} {ta ti te : Int} (hI : I.length = 64) (hB : IsB I) (hN : Ns.length = 21) : ∀ p ∈ headFs, PartOK Try.prog (headL co inc st I Ns ta ti te).toArray p := by
  intro p hp
  rcases List.mem_append.1 hp with hp | hp
  · rcases List.mem_append.1 hp with hp | hp
    · simp only [List.mem_cons, List.not_mem_nil, or_false] at hp
      rcases hp with rfl | rfl | rfl | rfl | rfl | rfl | rfl
      · exact .inl ⟨.u32, co, Try.underlying24, rfl⟩
      · exact .inl ⟨.u32, inc, Try.underlying24, rfl⟩
      · exact .inl ⟨.i64, st, Try.underlying3, rfl⟩
      · exact .inr ⟨16, idN I 0, Try.idT, Try.idSz, idN_isB hB _, idN_length hI _ (by omega), headL_ids hI 0 (by omega)⟩
      · exact .inr ⟨16, idN I 16, Try.idT, Try.idSz, idN_isB hB _, idN_length hI _ (by omega), headL_ids hI 16 (by omega)⟩
      · exact .inr ⟨16, idN I 32, Try.idT, Try.idSz, idN_isB hB _, idN_length hI _ (by omega), headL_ids hI 32 (by omega)⟩
      · exact .inr ⟨16, idN I 48, Try.idT, Try.idSz, idN_isB hB _, idN_length hI _ (by omega), headL_ids hI 48 (by omega)⟩
    · obtain ⟨k, hk, rfl⟩ := List.mem_map.1 hp
      have hk' : k < Ns.length := by rw [hN]; simpa using hk
      exact .inl ⟨.u64, Ns[k], Try.underlying27, headL_N hI k _ (List.getElem?_eq_getElem hk')⟩
  · simp only [List.mem_cons, List.not_mem_nil, or_false] at hp
    rcases hp with rfl | rfl | rfl
    · exact .inl ⟨.u32, ta, Try.underlying24, headL_ta hI hN⟩
    · exact .inl ⟨.u32, ti, Try.underlying24, headL_ti hI hN⟩
    · exact .inl ⟨.u64, te, Try.underlying27, headL_te hI hN⟩
/-- A head's cells, with what they may be. -/
def HeadOK (cs : List Value) : Prop := ∃ co inc st I Ns ta ti te, cs = headL co inc st I Ns ta ti te ∧ I.length = 64 ∧ IsB I ∧ Ns.length = 21
theorem head_eql {cs : List Value} (h : HeadOK cs) (w : World) : (Op.equalIn 10000 29 (.agg cs.toArray) (.agg cs.toArray)).run Try.prog w = .ok true w := by
  obtain ⟨co, inc, st, I, Ns, ta, ti, te, rfl, hI, hB, hN⟩ := h
  rw [run_equalIn_struct w 9999 29 _ _ (by kernel_rfl) (by kernel_rfl)]
  exact eqFields_refl w 9997 _ _ (by rw [Try.headFs]; exact headL_part hI hB hN)
theorem Try.headG : Try.prog.eqGuardType Try.prog.depth 29 = false := by kernel_rfl
section
variable {w : World} {ops : Array Oper} {o : Oper} {a : Act} {Q : Exit → Act → World → Prop}
theorem exec_headEql {ρ : Operand → Value} {t2 : TypeId} {x y : Operand} (ho : o.op = .binOp .eql 29 x y t2) {cs : List Value} (h : HeadOK cs) (hx : ρ x = .agg cs.toArray) (hy : ρ y = .agg cs.toArray) :
    (execOp ρ o).run Try.prog w = .ok (.value (.bool true)) w := by
  unfold execOp
  simp only [ho, hx, hy, Sem.run_bind, run_eqGuard_agg _ _ _ _ _ _ _ Try.headG, Result.andThen_ok, run_eql_struct, head_eql h w, Sem.run_pure]
end
end Go.Proofs.Ytpkmdnfkeebgbaa
