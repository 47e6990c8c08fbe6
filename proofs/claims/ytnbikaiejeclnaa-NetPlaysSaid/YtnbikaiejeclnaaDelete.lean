/- What slices.Delete computes at rows of bytes, one element off a row of the call's own. Conditions stand as premises. -/
import Derived.Test.YtnbikaiejeclnaaRows2
import Derived.Test.YtnbikaiejeclnaaUpd
import Derived.Lib.SliceRun
import Derived.Laws.IdiomCopy
namespace Go.Proofs.Ytnbikaiejeclnaa
open Go.ChangeShapes Go.WideShapes Go.ChangeAt Go.RowKit
set_option linter.unusedVariables false

section
variable {α : Type} {enc : α → Value} {e : TypeId}
/-- xs laid over l from place o on. -/
def layL : List α → Nat → List α → List α
  | l, _, [] => l
  | l, o, x :: r => layL (l.set o x) (o + 1) r
theorem layL_length : ∀ (xs l : List α) (o : Nat), (layL l o xs).length = l.length
  | [], _, _ => rfl
  | x :: r, l, o => by rw [layL, layL_length r]; simp
theorem layL_eq : ∀ (xs l : List α) (o : Nat), o + xs.length ≤ l.length → layL l o xs = l.take o ++ (xs ++ l.drop (o + xs.length))
  | [], l, o, _ => by simp [layL]
  | x :: r, l, o, h => by
    simp only [List.length_cons] at h
    rw [layL, layL_eq r (l.set o x) (o + 1) (by simp; omega)]
    have h1 : (l.set o x).take (o + 1) = l.take o ++ [x] := by
      rw [List.take_succ_eq_append_getElem (by simp; omega), List.take_set_of_le (Nat.le_refl o)]
      simp
    have h2 : (l.set o x).drop (o + 1 + r.length) = l.drop (o + (x :: r).length) := by
      rw [List.drop_set_of_lt (by omega)]
      congr 1
      simp; omega
    rw [h1, h2]
    simp
theorem Own.lay {base g len cap : Nat} : ∀ (xs l : List α) (o : Nat) (w : World), Own enc e w base (some ⟨g, 0, none⟩) len cap l → Own enc e (w.setCells g o (xs.map enc)) base (some ⟨g, 0, none⟩) len cap (layL l o xs)
  | [], _, _, _, h => h
  | x :: r, l, o, w, h => Own.lay r (l.set o x) (o + 1) _ (h.set o x)
theorem Own.front {w : World} {base g len cap m : Nat} {l : List α} (h : Own enc e w base (some ⟨g, 0, none⟩) len cap l) (hm : m ≤ len) : Own enc e w base (some ⟨g, 0, none⟩) m cap (l.take m) := by
  obtain ⟨hl, h1, h2⟩ := h
  refine ⟨by simp; omega, by simp; omega, ?_⟩
  rcases h2 with ⟨h2, _⟩ | ⟨g', c, cur, hv, hbg, hg, h3, h4, h5, h6⟩
  · cases h2
  · cases hv
    refine .inr ⟨g, cap, cur, rfl, hbg, hg, by omega, h4, h5, ?_⟩
    rw [Nat.mul_one] at h6 ⊢
    rw [List.map_take, ← h6, List.take_take, Nat.min_eq_left hm]
theorem Upd.cells {F : Nat → Prop} {g : Nat} (hf : F g) : ∀ (vs : List Value) (o : Nat) (w : World), Upd F w (w.setCells g o vs)
  | [], _, w => Upd.refl F w
  | v :: r, o, w => (Upd.setCell w ⟨g, o, none⟩ v hf).trans (Upd.cells hf r (o + 1) _) (fun _ _ h => h)
end

set_option maxHeartbeats 4000000 in
theorem delete_any (g cap i : Nat) (vs : List (Option Addr × Nat × Nat)) (base : Nat) (w : World) (ho : Own encS 29 w base (some ⟨g, 0, none⟩) vs.length cap vs) (hi : i < vs.length) :
    Calls Try.prog 25 #[.slice (some ⟨g, 0, none⟩) vs.length cap, .int .i64 i, .int .i64 ((i : Int) + 1)] w fun e w' => e = .returned (.slice (some ⟨g, 0, none⟩) (vs.length - 1) cap) ∧ Own encS 29 w' base (some ⟨g, 0, none⟩) (vs.length - 1) cap (vs.eraseIdx i) ∧ Upd (· = g) w w' := by
  obtain ⟨i0, hi0, hz0, hz1, hz2⟩ := info_parts Try.sInfo
  have hrd := ho.rd
  have hcap := hrd.2.1
  have hm := hrd.2.2.1
  unfold maxLen at hm
  obtain ⟨n, hn⟩ : ∃ n, vs.length = n := ⟨_, rfl⟩
  have HN := Lib.hid hn
  obtain ⟨news, hnews⟩ : ∃ news, news = (vs.drop (i + 1)).map encS := ⟨_, rfl⟩
  have hlen : news.length = n - (i + 1) := by rw [hnews]; simp [hn]
  obtain ⟨A, hA, hsrc⟩ : ∃ A : Addr, (if cap = i + 1 then some (⟨g, 0, none⟩ : Addr) else some ⟨g, i + 1, none⟩) = some A ∧ Hid (∀ t u, news[t]? = some u → w.drew.cell? (A.add t) = some u) := by
    by_cases h : cap = i + 1
    · refine ⟨⟨g, 0, none⟩, by simp [h], fun t u hu => ?_⟩
      have h0 : news.length = 0 := by rw [hlen]; omega
      rw [List.length_eq_zero_iff.1 h0] at hu
      simp at hu
    · refine ⟨⟨g, i + 1, none⟩, by simp [h], fun t u hu => ?_⟩
      rw [hnews, List.getElem?_map, List.getElem?_drop] at hu
      obtain ⟨x, hx, rfl⟩ := Option.map_eq_some_iff.1 hu
      rw [addr_add]
      exact ho.cell _ x hx
  have s1 : Hid (news.length = (n - (i + 1)) * 1) := by rw [Nat.mul_one]; exact hlen
  have s2 : Hid (∀ u ∈ news, u.oneCell' = true) := by
    intro u hu
    rw [hnews] at hu
    obtain ⟨x, _, rfl⟩ := List.mem_map.1 hu
    rfl
  have s3 : Hid (∀ t, t < news.length → (w.drew.cell? ⟨g, 0 + i * 1 + t, none⟩).isSome = true ∧ w.drew.frozen? ⟨g, 0 + i * 1 + t, none⟩ = false) := by
    intro t ht
    rw [hlen] at ht
    obtain ⟨x, hx⟩ : ∃ x, vs[i + t]? = some x := ⟨_, List.getElem?_eq_getElem (by omega)⟩
    rw [Nat.mul_one, Nat.zero_add]
    exact ⟨by show (w.cell? _).isSome = true; rw [ho.cell _ x hx]; rfl, ho.free _⟩
  obtain ⟨W1, hW1⟩ : ∃ W1, W1 = w.drew.setCells g (0 + i * 1) news := ⟨_, rfl⟩
  have hd : Own encS 29 w.drew base (some ⟨g, 0, none⟩) vs.length cap vs := ho
  have ho1 : Own encS 29 W1 base (some ⟨g, 0, none⟩) n cap (layL vs i (vs.drop (i + 1))) := by
    have := hd.lay (vs.drop (i + 1)) vs i
    rw [hW1, hnews, Nat.mul_one, Nat.zero_add, ← hn]
    exact this
  have hu1 : Upd (· = g) w W1 := by
    rw [hW1]
    exact (Upd.refl _ _).drew.trans (Upd.cells (F := (· = g)) rfl _ _ _) (fun _ _ h => h)
  have hl1 : (layL vs i (vs.drop (i + 1))).length = n := by rw [layL_length]; exact hn
  have hcl : ∀ ty, (Builtin.clear_ #[22] ty #[.slice (some ⟨g, n - 1, none⟩) (n - (n - 1)) (cap - (n - 1))]).run Try.prog W1 = .ok (.tuple #[]) (W1.setCells g (n - 1) (List.replicate 1 (.slice none 0 0))) := by
    intro ty
    rw [show n - (n - 1) = 1 by omega]
    have hz : ∀ w, (zeroValue 29).run Try.prog w = .ok (.slice none 0 0) w := fun w => by simp [zeroValue, typeInfo, hi0, hz0]
    refine Lib.run_clear_slice W1 _ _ ty (.slice none 0 0) Try.underlying22 hz rfl rfl g (n - 1) 1 _ (by omega) (fun t ht => ?_) (fun t ht => ho1.free _)
    obtain ⟨x, hx⟩ : ∃ x, (layL vs i (vs.drop (i + 1)))[n - 1 + t]? = some x := ⟨_, List.getElem?_eq_getElem (by omega)⟩
    rw [ho1.cell _ x hx]; rfl
  have ho2 : Own encS 29 (W1.setCells g (n - 1) (List.replicate 1 (.slice none 0 0))) base (some ⟨g, 0, none⟩) (n - 1) cap (vs.eraseIdx i) := by
    have h := (ho1.lay [(none, 0, 0)] _ (n - 1)).front (m := n - 1) (by omega)
    have e1 : (layL (layL vs i (vs.drop (i + 1))) (n - 1) [(none, 0, 0)]).take (n - 1) = vs.eraseIdx i := by
      have hlv : i + (vs.drop (i + 1)).length = n - 1 := by simp [hn]; omega
      rw [layL_eq _ _ _ (by rw [hl1]; simp; omega), List.take_append_of_le_length (by simp; omega), List.take_take, Nat.min_self, layL_eq _ _ _ (by omega), ← List.append_assoc, List.take_append_of_le_length (by simp; omega), List.take_of_length_le (by simp; omega), List.eraseIdx_eq_take_drop_succ]
    rw [e1] at h
    exact h
  have hu2 : Upd (· = g) w (W1.setCells g (n - 1) (List.replicate 1 (.slice none 0 0))) := hu1.trans (Upd.cells (F := (· = g)) rfl _ _ _) (fun _ _ h => h)
  have HW := Lib.hid hW1
  have HO2 := Lib.hid ho2
  have HU2 := Lib.hid hu2
  rw [hn]
  rw [hn] at hi hcap
  clear hnews hlen hd ho1 hu1 hl1 ho2 hu2 hW1 hn ho hrd
  have hic : (i : Int) + 1 ≤ cap := by omega
  have hic1 : i ≤ cap := by omega
  have hic4 : (0 : Int) ≤ (i : Int) + 1 := by omega
  have hic5 : (i : Int) + 1 ≤ (n : Int) := by omega
  have hic2 : i + 1 ≤ cap := by omega
  have hic3 : n - 1 ≤ cap := by omega
  have hne : ¬ cap = n - 1 := by omega
  have hni : ¬ ((i : Int) = (i : Int) + 1) := by omega
  go_enter Try.func25, Try.ntmps25
  go_wp2_with fail
  go_region_law (refine step_append_room rfl (.tmp 22) (.tmp 25) 22 rfl 29 i0 1 Try.underlying22 hi0 hz1 g 0 i cap (by simp [Act.eval, Act.put]) A (n - (i + 1)) (cap - (i + 1)) news (by simp [Act.eval, Act.put]) s1.out hsrc.out s2.out (by omega) s3.out ?_; rw [← HW.out, show i + (n - (i + 1)) = n - 1 by omega])
  go_wp2
  go_ret
  exact ⟨rfl, HO2.out, HU2.out⟩
end Go.Proofs.Ytnbikaiejeclnaa
