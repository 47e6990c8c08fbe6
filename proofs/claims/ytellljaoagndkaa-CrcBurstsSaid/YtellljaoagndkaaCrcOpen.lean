/- What crc.Seal, crc.Open and the document's own compute. Conditions stand as premises. -/
import Derived.Test.YtellljaoagndkaaCrcSum
import Derived.Test.YtellljaoagndkaaRefCrc
import Derived.Test.YtellljaoagndkaaLeGet
import Derived.Test.YtellljaoagndkaaLeAdd
import Derived.Test.YtellljaoagndkaaRefGet
import Derived.Test.YtellljaoagndkaaRefAdd
namespace Go.Proofs.Ytellljaoagndkaa
open Go.ChangeShapes Go.WideShapes Go.ChangeAt Go.RowKit
set_option linter.unusedVariables false

def sealL (l : List Int) : List Int := l ++ digs 4 (moreI 0 l)

theorem seal_any (a : Option Addr) (n c : Nat) (l : List Int) (w : World) (hr : RdB w a n c l) (hlen : n ≤ 140737488351000) :
    Calls Try.prog 15 #[.slice a n c] w (NewB w.heap.size w (sealL l)) := by
  have h1 := RdBB.one (w := w) 22 hr
  have hlen2 := hr.len
  have hb := moreI_bd 0 l
  have hr1 := hr.mono ((Below.refl _ _).alloc (Nat.le_refl _) (.cells #[.slice a n c] 22))
  go_enter Try.func15, Try.ntmps15
  go_wp2_with fail
  refine (sum_any _ _ _ [l] _ h1 (by omega) (by intro x hx; simp at hx; subst hx; omega)).mono ?_
  rintro e w1 ⟨rfl, rfl⟩
  rw [sumI_one]
  go_wp2_with fail
  refine (add_yes _ _ _ l 4 _ _ hr1 hlen rfl (by omega)).mono ?_
  rintro e w2 ⟨a2, c2, rfl, ho2, hb2⟩
  go_wp2_with fail
  go_ret
  exact ⟨a2, c2, ret_sl (by simp [sealL]; try omega), ho2.base (by simp), ((Below.refl _ _).alloc (Nat.le_refl _) _).trans (hb2.mono (by simp))⟩

theorem refseal_any (a : Option Addr) (n c : Nat) (l : List Int) (w : World) (hr : RdB w a n c l) (hlen : n ≤ 140737488351000) :
    Calls Try.prog 16 #[.slice a n c] w (NewB w.heap.size w (sealL l)) := by
  have hb := moreI_bd 0 l
  go_enter Try.func16, Try.ntmps16
  go_wp2_with fail
  refine (refmore_any _ _ _ _ l (by omega) _ hr (by omega)).mono ?_
  rintro e w1 ⟨rfl, rfl⟩
  go_wp2_with fail
  refine (refadd_yes _ _ _ l 4 _ _ hr hlen rfl (by omega)).mono ?_
  rintro e w2 ⟨a2, c2, rfl, ho2, hb2⟩
  go_wp2_with fail
  go_ret
  exact ⟨a2, c2, ret_sl (by simp [sealL]), ho2, hb2⟩

/-- The code that Open tells, and the bytes. -/
def openC (l : List Int) : Int := if l.length < 4 then 22 else if leN (l.drop (l.length - 4)) = moreI 0 (l.take (l.length - 4)) then 0 else 19
def openL (l : List Int) : List Int := if openC l = 0 then l.take (l.length - 4) else []
/-- Bytes and a code. -/
def Coded (w : World) (l : List Int) (code : Int) (e : Ending) (w' : World) : Prop :=
  ∃ a c, e = .returned (.tuple #[.slice a l.length c, .int .i64 code]) ∧ RdB w' a l.length c l ∧ Below w.heap.size w w'

theorem rdB_none (w : World) : RdB w none 0 0 [] := ⟨IsB.nil, rfl, Nat.le_refl _, Nat.zero_le _, fun _ => rfl, .inl rfl⟩

theorem getA_last (l : List Int) (h : 4 ≤ l.length) : getA l ((l.length : Int) - 4) 4 = leN (l.drop (l.length - 4)) := by
  have hg : getB l ((l.length : Int) - 4) 4 = true := by
    simp only [getB, Bool.and_eq_true, decide_eq_true_eq]
    exact ⟨⟨rfl, by omega⟩, by omega⟩
  rw [getA, if_pos hg]
  have e1 : ((l.length : Int) - 4).toNat = l.length - 4 := by omega
  rw [e1, List.take_of_length_le (by simp; omega)]

theorem open_any (a : Option Addr) (n c : Nat) (l : List Int) (w : World) (hr : RdB w a n c l) (hlen : n ≤ 140737488351000) :
    Calls Try.prog 11 #[.slice a n c] w (Coded w (openL l) (openC l)) := by
  obtain rfl : l.length = n := hr.len
  by_cases hs : l.length < 4
  · have hC : openC l = 22 := if_pos hs
    rw [openL, hC, if_neg (by omega)]
    go_enter Try.func11, Try.ntmps11
    go_wp2
    go_ret2
    exact ⟨none, 0, rfl, rdB_none _, Below.refl _ _⟩
  · have hC2 : openC l = if leN (l.drop (l.length - 4)) = moreI 0 (l.take (l.length - 4)) then 0 else 19 := if_neg hs
    have HG := Lib.hid (getA_last l (by omega))
    have hbs := sumI_bd [l.take (l.length - 4)]
    have hr1 := hr.take (l.length - 4) (by omega)
    have h1 := RdBB.one (w := w) 22 hr1
    have hrb := hr1.mono ((Below.refl _ _).alloc (Nat.le_refl _) (.cells #[.slice a (l.length - 4) c] 22))
    have hcl := hr.2.2.1
    obtain ⟨q, hq⟩ : ∃ q, leN (l.drop (l.length - 4)) = q := ⟨_, rfl⟩
    rw [hq] at HG hC2
    have HQ := Lib.hid hq
    clear hq
    rw [openL]
    rw [hC2]
    have HC : Hid (moreI 0 (l.take (l.length - 4)) = sumI [l.take (l.length - 4)]) := Lib.hid rfl
    rw [HC.out]
    generalize hsg : sumI [l.take (l.length - 4)] = s at hbs
    have HS := Lib.hid hsg
    clear hsg hC2 HC
    by_cases he : q = s
    · rw [if_pos he, if_pos rfl]
      have hqs : (q != s) = false := by rw [bne_eq_false_iff_eq]; exact he
      have HE := Lib.hid he
      clear he
      go_enter Try.func11, Try.ntmps11
      go_wp2_with fail
      refine (get_any _ _ _ l _ _ _ hr (by omega)).mono ?_
      rintro e w1 ⟨rfl, rfl⟩
      rw [HG.out]
      go_wp2_with fail
      refine (sum_any _ _ _ [l.take (l.length - 4)] _ h1 (by omega) (by intro x hx; simp at hx; subst hx; simp; omega)).mono ?_
      rintro e w1 ⟨rfl, rfl⟩
      rw [HS.out]
      go_wp2_with fail
      refine (clone_any _ _ _ _ _ hrb (by omega)).mono ?_
      rintro e w2 ⟨a2, c2, rfl, ho2, hb2⟩
      go_wp2_with fail
      go_ret2
      exact ⟨a2, c2, ret_slc (by rw [List.length_take]; omega), ho2.rd, ((Below.refl _ _).alloc (Nat.le_refl _) _).trans (hb2.mono (by simp))⟩
    · rw [if_neg he, if_neg (by omega)]
      have hqs : (q != s) = true := by rw [bne_iff_ne]; exact he
      clear he
      go_enter Try.func11, Try.ntmps11
      go_wp2_with fail
      refine (get_any _ _ _ l _ _ _ hr (by omega)).mono ?_
      rintro e w1 ⟨rfl, rfl⟩
      rw [HG.out]
      go_wp2_with fail
      refine (sum_any _ _ _ [l.take (l.length - 4)] _ h1 (by omega) (by intro x hx; simp at hx; subst hx; simp; omega)).mono ?_
      rintro e w1 ⟨rfl, rfl⟩
      rw [HS.out]
      go_wp2_with fail
      go_ret2
      exact ⟨none, 0, rfl, rdB_none _, (Below.refl _ _).alloc (Nat.le_refl _) _⟩

theorem refopen_any (a : Option Addr) (n c : Nat) (l : List Int) (w : World) (hr : RdB w a n c l) (hlen : n ≤ 140737488351000) :
    Calls Try.prog 12 #[.slice a n c] w (Coded w (openL l) (openC l)) := by
  obtain rfl : l.length = n := hr.len
  by_cases hs : l.length < 4
  · have hC : openC l = 22 := if_pos hs
    rw [openL, hC, if_neg (by omega)]
    go_enter Try.func12, Try.ntmps12
    go_wp2
    go_ret2
    exact ⟨none, 0, rfl, rdB_none _, Below.refl _ _⟩
  · have hC2 : openC l = if leN (l.drop (l.length - 4)) = moreI 0 (l.take (l.length - 4)) then 0 else 19 := if_neg hs
    have HG := Lib.hid (getA_last l (by omega))
    have hbs := moreI_bd 0 (l.take (l.length - 4))
    have hr1 := hr.take (l.length - 4) (by omega)
    have hcl := hr.2.2.1
    obtain ⟨q, hq⟩ : ∃ q, leN (l.drop (l.length - 4)) = q := ⟨_, rfl⟩
    rw [hq] at HG hC2
    rw [openL]
    rw [hC2]
    generalize hsg : moreI 0 (l.take (l.length - 4)) = s at hbs
    have HS := Lib.hid hsg
    clear hsg hC2 hq
    by_cases he : q = s
    · rw [if_pos he, if_pos rfl]
      have hqs : (q != s) = false := by rw [bne_eq_false_iff_eq]; exact he
      clear he
      go_enter Try.func12, Try.ntmps12
      go_wp2_with fail
      refine (refget_any _ _ _ l _ _ _ hr (by omega) (by omega)).mono ?_
      rintro e w1 ⟨rfl, rfl⟩
      rw [HG.out]
      go_wp2_with fail
      refine (refmore_any _ _ _ _ _ (by omega) _ hr1 (by omega)).mono ?_
      rintro e w1 ⟨rfl, rfl⟩
      rw [HS.out]
      have Hl : Hid ((l.take (l.length - 4)).length = l.length - 4) := Lib.hid (by simp)
      go_wp2_with fail
      go_ret2
      exact ⟨a, c, ret_slc (by rw [Hl.out]), by rw [Hl.out]; exact hr1, Below.refl _ _⟩
    · rw [if_neg he, if_neg (by omega)]
      have hqs : (q != s) = true := by rw [bne_iff_ne]; exact he
      clear he
      go_enter Try.func12, Try.ntmps12
      go_wp2_with fail
      refine (refget_any _ _ _ l _ _ _ hr (by omega) (by omega)).mono ?_
      rintro e w1 ⟨rfl, rfl⟩
      rw [HG.out]
      go_wp2_with fail
      refine (refmore_any _ _ _ _ _ (by omega) _ hr1 (by omega)).mono ?_
      rintro e w1 ⟨rfl, rfl⟩
      rw [HS.out]
      go_wp2_with fail
      go_ret2
      exact ⟨none, 0, rfl, rdB_none _, Below.refl _ _⟩

theorem bytes_any (a : Option Addr) (n c : Nat) (l : List Int) (w : World) (hr : RdB w a n c l) (hlen : n ≤ 140737488351232) :
    Calls Try.prog 17 #[.slice a n c] w (NewB w.heap.size w l) := by
  obtain rfl : l.length = n := hr.len
  have hr1 := hr.2.alloc (.cells #[] 5)
  have ho1 : Own (Value.int .u8) 5 (w.alloc (.cells #[] 5)) w.heap.size (some ⟨w.heap.size, 0, none⟩) 0 0 [] := Own.lit [] _ 0 rfl rfl (Nat.le_refl _) (Nat.zero_le _)
  go_enter Try.func17, Try.ntmps17
  go_wp2_with (at_builtin; go_must (refine wpList_appOwn rfl rfl Try.oneB rfl rfl ho1 hr1 (fun _ => rfl) (by omega) (by omega) (by simp) ?_); intro a2 c2 w2 ho2 hb2 _ _)
  go_ret
  rw [Nat.zero_add, List.nil_append] at ho2
  exact ⟨a2, c2, rfl, ⟨hr.1, ho2⟩, ((Below.refl _ _).alloc (Nat.le_refl _) _).trans hb2⟩

end Go.Proofs.Ytellljaoagndkaa
