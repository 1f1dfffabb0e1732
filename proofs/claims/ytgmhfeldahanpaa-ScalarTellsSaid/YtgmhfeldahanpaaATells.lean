/-
  What the reference's Lower, Trim, Drop, Has and Split compute; the two Digit, Alpha and Value.
-/
import Derived.Test.YtgmhfeldahanpaaPScalarTellsx1
import Derived.Test.YtgmhfeldahanpaaPScalarTellsx2
import Derived.Test.YtgmhfeldahanpaaPScalarTellsx3
import Derived.Test.YtgmhfeldahanpaaATrim
import Derived.Test.YtgmhfeldahanpaaALower
namespace Go.Proofs.Ytgmhfeldahanpaa.A
open Go.RowKit Go.Proofs.YtgmhfeldahanpaaW.PrintWords Go.Proofs.YtgmhfeldahanpaaW.PrintLast Go.Proofs.YtgmhfeldahanpaaW.PrintMore
open Go.Proofs.Ytgmhfeldahanpaa.PScalarTells
set_option linter.unusedVariables false

def zs (l : List UInt8) : List Int := l.map fun c => (c.toNat : Int)
theorem zs_append (l m : List UInt8) : zs (l ++ m) = zs l ++ zs m := by simp [zs]
theorem zs_one (c : UInt8) : zs [c] = [(c.toNat : Int)] := rfl
theorem strOfNums_zs (l : List UInt8) : strOfNums (zs l) = str l := by
  apply str_eq
  rw [strOfNums_data, zs, List.map_map]
  have : ((fun n : Int => UInt8.ofNat n.toNat) ∘ fun c : UInt8 => (c.toNat : Int)) = id := by
    funext c; simp
  rw [this, List.map_id]
theorem lower_str (s : ByteArray) : lower s = str (s.data.toList.map lowB) := rfl
theorem drop_str (s : ByteArray) : drop s = str (dropL s.data.toList) := rfl

/-! ### Lower -/
theorem lower_from (s : ByteArray) (hs : s.size ≤ 1000000) : ∀ (f j : Nat), j + f = s.size → mantrapref01_Lower.l0 (f + 1) s (zs ((s.data.toList.take j).map lowB)) j = some (lower s) := by
  intro f
  induction f with
  | zero =>
    intro j h
    rw [mantrapref01_Lower.l0, if_neg (by omega), strOfNums_zs, List.take_of_length_le (by rw [← size_len]; omega), lower_str]
  | succ f ih =>
    intro j h
    have hjl : j < s.data.toList.length := by rw [← size_len]; omega
    have hlen : (zs ((s.data.toList.take j).map lowB)).length < 140737488355328 := by simp [zs]; omega
    have hb := bt_list s j (by omega)
    have hlt := (s.data.toList.getD j 0).toNat_lt
    have hnext := ih (j + 1) (by omega)
    rw [take_snocB _ j hjl, List.map_append, List.map_singleton, zs_append, zs_one] at hnext
    have e : wrap64 ((j : Int) + 1) = ((j + 1 : Nat) : Int) := by rw [w64 (by omega) (by omega)]; omega
    rw [mantrapref01_Lower.l0, if_pos (by omega), if_pos (by omega), hb, e]
    by_cases c : 65 ≤ (s.data.toList.getD j 0).toNat ∧ (s.data.toList.getD j 0).toNat ≤ 90
    · rw [if_pos (by omega), if_pos (by omega), if_pos hlen, ← hnext]
      congr 3
      rw [lowB_up _ c]
      omega
    · rw [lowB_id _ c] at hnext
      by_cases c1 : 65 ≤ (s.data.toList.getD j 0).toNat
      · rw [if_pos (by omega), if_neg (by omega), if_pos hlen, hnext]
      · rw [if_neg (by omega), if_pos hlen, hnext]
theorem ref_lower (s : ByteArray) (hs : s.size ≤ 1000000) : ∃ k, mantrapref01_Lower.f k s = some (lower s) :=
  ⟨s.size + 1, lower_from s hs s.size 0 (by omega)⟩

/-! ### Drop -/
theorem drop_from (s : ByteArray) (hs : s.size ≤ 1000000) : ∀ (f j : Nat), j + f = s.size → mantrapref01_Drop.l0 (f + 1) s (zs (dropL (s.data.toList.take j))) j = some (drop s) := by
  intro f
  induction f with
  | zero =>
    intro j h
    rw [mantrapref01_Drop.l0, if_neg (by omega), strOfNums_zs, List.take_of_length_le (by rw [← size_len]; omega), drop_str]
  | succ f ih =>
    intro j h
    have hjl : j < s.data.toList.length := by rw [← size_len]; omega
    have hlen : (zs (dropL (s.data.toList.take j))).length < 140737488355328 := by
      have := dropL_le (s.data.toList.take j)
      rw [List.length_take] at this
      simp only [zs, List.length_map]; omega
    have hb := bt_list s j (by omega)
    have hnext := ih (j + 1) (by omega)
    have e : wrap64 ((j : Int) + 1) = ((j + 1 : Nat) : Int) := by rw [w64 (by omega) (by omega)]; omega
    rw [mantrapref01_Drop.l0, if_pos (by omega), if_pos (by omega), hb, e]
    by_cases c : ((s.data.toList.getD j 0).toNat : Int) = 9 ∨ ((s.data.toList.getD j 0).toNat : Int) = 10 ∨ ((s.data.toList.getD j 0).toNat : Int) = 13
    · rw [dropL_skip _ j hjl (keepB_no _ c)] at hnext
      by_cases c9 : ((s.data.toList.getD j 0).toNat : Int) = 9
      · rw [if_pos c9, hnext]
      · by_cases c10 : ((s.data.toList.getD j 0).toNat : Int) = 10
        · rw [if_neg c9, if_pos c10, hnext]
        · rw [if_neg c9, if_neg c10, if_pos (by omega), hnext]
    · rw [dropL_keep _ j hjl (keepB_yes _ c), zs_append, zs_one] at hnext
      rw [if_neg (by omega), if_neg (by omega), if_neg (by omega), if_pos hlen, hnext]
theorem ref_drop (s : ByteArray) (hs : s.size ≤ 1000000) : ∃ k, mantrapref01_Drop.f k s = some (drop s) :=
  ⟨s.size + 1, drop_from s hs s.size 0 (by omega)⟩

/-! ### Trim -/
theorem tl1 (s : ByteArray) (hs : s.size ≤ 1000000) : ∀ (k fr up : Nat), up < k + fr → fr ≤ up → up ≤ s.size → mantrapref01_Trim.l1 k s fr up = some (str (trimR ((s.data.toList.take up).drop fr))) := by
  intro k
  induction k with
  | zero => intro fr up h h1 h2; omega
  | succ k ih =>
    intro fr up h h1 h2
    have hx : s.extract ((fr : Int)).toNat ((up : Int)).toNat = str ((s.data.toList.take up).drop fr) := by
      rw [show ((fr : Int)).toNat = fr by omega, show ((up : Int)).toNat = up by omega]
      exact str_eq (extract_td s fr up)
    rw [mantrapref01_Trim.l1]
    by_cases c : fr < up
    · obtain ⟨t, rfl⟩ : ∃ t, up = t + 1 := ⟨up - 1, by omega⟩
      have e : wrap64 (((t + 1 : Nat) : Int) - 1) = (t : Int) := by rw [w64 (by omega) (by omega)]; omega
      have htl : t < s.data.toList.length := by rw [← size_len]; omega
      have es : (s.data.toList.take (t + 1)).drop fr = (s.data.toList.take t).drop fr ++ [s.data.toList.getD t 0] := by
        rw [take_snocB _ t htl, List.drop_append_of_le_length (by rw [List.length_take]; omega)]
      rw [if_pos (by omega), e, if_pos (by omega), if_pos (by omega), bt_list s t (by omega)]
      by_cases b : (s.data.toList.getD t 0).toNat ≤ 32
      · rw [if_pos (by omega), ih fr t (by omega) (by omega) (by omega), es, trimR_blank _ _ (decide_eq_true b)]
      · rw [if_neg (by omega), if_pos (by omega), if_pos (by omega), if_pos (by omega), hx, es, trimR_stop _ _ (decide_eq_false b)]
    · have e : (s.data.toList.take up).drop fr = [] := by rw [List.drop_eq_nil_iff, List.length_take]; omega
      rw [if_neg (by omega), if_pos (by omega), if_pos (by omega), if_pos (by omega), hx, e, trimR_nil]

theorem tl0 (s : ByteArray) (hs : s.size ≤ 1000000) : ∀ (k fr : Nat), 2 * s.size + 2 < k + fr → fr ≤ s.size → mantrapref01_Trim.l0 k s fr s.size = some (str (trimL (s.data.toList.drop fr))) := by
  intro k
  induction k with
  | zero => intro fr h h1; omega
  | succ k ih =>
    intro fr h h1
    have hj : mantrapref01_Trim.j1 k s fr s.size = some (str (trimR (s.data.toList.drop fr))) := by
      obtain ⟨k', rfl⟩ : ∃ k', k = k' + 1 := ⟨k - 1, by omega⟩
      rw [mantrapref01_Trim.j1, tl1 s hs k' fr s.size (by omega) h1 (Nat.le_refl _), List.take_of_length_le (by rw [size_len]; exact Nat.le_refl _)]
    rw [mantrapref01_Trim.l0]
    by_cases c : fr < s.size
    · have htl : fr < s.data.toList.length := by rw [← size_len]; omega
      have e : wrap64 ((fr : Int) + 1) = ((fr + 1 : Nat) : Int) := by rw [w64 (by omega) (by omega)]; omega
      rw [if_pos (by omega), if_pos (by omega), if_pos (by omega), bt_list s fr (by omega), e]
      unfold trimL at ih ⊢
      by_cases b : (s.data.toList.getD fr 0).toNat ≤ 32
      · rw [if_pos (by omega), ih (fr + 1) (by omega) (by omega), drop_consB _ fr htl, trimF_blank _ _ (decide_eq_true b)]
      · rw [if_neg (by omega), hj, drop_consB _ fr htl, trimF_stop _ _ (decide_eq_false b)]
    · have e : s.data.toList.drop fr = [] := by rw [List.drop_eq_nil_iff, ← size_len]; omega
      rw [if_neg (by omega), hj, e]
      rfl
theorem ref_trim (s : ByteArray) (hs : s.size ≤ 1000000) : ∃ k, mantrapref01_Trim.f k s = some (trim s) :=
  ⟨2 * s.size + 3, by
    have := tl0 s hs (2 * s.size + 3) 0 (by omega) (by omega)
    rw [List.drop_zero] at this
    exact this⟩

/-! ### Has, Split -/
theorem has_from (s : ByteArray) (hs : s.size ≤ 1000000) (c : UInt8) : ∀ (f j : Nat), j + f = s.size → mantrapref01_Has.l0 (f + 1) s (c.toNat : Int) j = some ((s.data.toList.drop j).contains c) := by
  intro f
  induction f with
  | zero =>
    intro j h
    have e : s.data.toList.drop j = [] := by rw [List.drop_eq_nil_iff, ← size_len]; omega
    rw [mantrapref01_Has.l0, if_neg (by omega), e]
    rfl
  | succ f ih =>
    intro j h
    have htl : j < s.data.toList.length := by rw [← size_len]; omega
    have e : wrap64 ((j : Int) + 1) = ((j + 1 : Nat) : Int) := by rw [w64 (by omega) (by omega)]; omega
    rw [mantrapref01_Has.l0, if_pos (by omega), if_pos (by omega), bt_list s j (by omega), e, drop_consB _ j htl, List.contains_cons]
    by_cases d : ((s.data.toList.getD j 0).toNat : Int) = (c.toNat : Int)
    · have : s.data.toList.getD j 0 = c := UInt8.toNat.inj (by omega)
      rw [if_pos d, this]
      simp
    · have hne : (c == s.data.toList.getD j 0) = false := by
        rw [beq_eq_false_iff_ne]
        rintro rfl
        exact d rfl
      rw [if_neg d, ih (j + 1) (by omega), hne, Bool.false_or]
theorem ref_has (s : ByteArray) (hs : s.size ≤ 1000000) (c : UInt8) : mantrapref01_Has.f (s.size + 1) s (c.toNat : Int) = some (s.data.toList.contains c) := by
  have := has_from s hs c s.size 0 (by omega)
  rw [List.drop_zero] at this
  exact this

theorem sp_from (s sep : ByteArray) (hs : s.size ≤ 1000000) (ha : sep.size ≤ 1000000) : ∀ (f j : Nat) (out : List ByteArray) (cur : List UInt8), j + f = s.size → out.length ≤ j → cur.length ≤ j →
    mantrapref01_Split.l0 (f + sep.size + 2) s sep out (str cur) j = some (out ++ (splitA sep.data.toList cur (s.data.toList.drop j)).map str) := by
  intro f
  induction f with
  | zero =>
    intro j out cur h ho hc
    have e : s.data.toList.drop j = [] := by rw [List.drop_eq_nil_iff, ← size_len]; omega
    rw [mantrapref01_Split.l0, if_neg (by omega), if_pos (by omega), e]
    rfl
  | succ f ih =>
    intro j out cur h ho hc
    have htl : j < s.data.toList.length := by rw [← size_len]; omega
    have e : wrap64 ((j : Int) + 1) = ((j + 1 : Nat) : Int) := by rw [w64 (by omega) (by omega)]; omega
    have hh := LeO_le (fun k => mantrapref01_Has.mono sep ((s.data.toList.getD j 0).toNat : Int) k) (ref_has sep ha (s.data.toList.getD j 0)) (f + 1 + sep.size + 1) (by omega)
    rw [show f + 1 + sep.size + 2 = (f + 1 + sep.size + 1) + 1 by omega, mantrapref01_Split.l0, if_pos (by omega), if_pos (by omega), bt_list s j (by omega), hh, Option.bind_some, e, drop_consB _ j htl, splitA]
    rw [show f + 1 + sep.size + 1 = f + sep.size + 2 by omega]
    cases hin : sep.data.toList.contains (s.data.toList.getD j 0) with
    | true =>
      rw [if_pos rfl, if_pos (by omega), if_pos rfl]
      have := ih (j + 1) (out ++ [str cur]) [] (by omega) (by rw [List.length_append, List.length_singleton]; omega) (by simp)
      rw [show (⟨#[]⟩ : ByteArray) = str [] from rfl, this]
      simp
    | false =>
      have hx : s.extract ((j : Int)).toNat (((j + 1 : Nat) : Int)).toNat = str [s.data.toList.getD j 0] := by
        rw [show ((j : Int)).toNat = j by omega, show (((j + 1 : Nat) : Int)).toNat = j + 1 by omega]
        refine str_eq ?_
        rw [extract_td, take_snocB _ j htl, List.drop_append_of_le_length (by rw [List.length_take]; omega), List.drop_eq_nil_of_le (by rw [List.length_take]; omega)]
        rfl
      have ha2 : str cur ++ str [s.data.toList.getD j 0] = str (cur ++ [s.data.toList.getD j 0]) := by
        refine str_eq ?_
        rw [ByteArray.data_append, Array.toList_append, str_data, str_data]
      rw [if_neg (by simp), if_pos (by omega), if_pos (by omega), hx, if_pos (by rw [str_size, str_size, List.length_singleton]; omega), ha2, if_neg (by simp)]
      exact ih (j + 1) out _ (by omega) (by omega) (by rw [List.length_append, List.length_singleton]; omega)
theorem ref_split (s sep : ByteArray) (hs : s.size ≤ 1000000) (ha : sep.size ≤ 1000000) : ∃ k, mantrapref01_Split.f k s sep = some (split s sep) :=
  ⟨s.size + sep.size + 2, by
    have := sp_from s sep hs ha s.size 0 [] [] (by omega) (by simp) (by simp)
    rw [List.drop_zero, List.nil_append] at this
    exact this⟩

theorem split_length (s sep : ByteArray) : (split s sep).length ≤ s.size + 1 := by
  have := splitA_length sep.data.toList s.data.toList []
  rw [split, List.length_map, size_len]
  exact this

/-! ### slices.Equal of a list with itself -/
theorem equalS_from (l : List ByteArray) (hl : l.length ≤ 1000001) : ∀ (d i : Nat), l.length = i + d → slices_Equal_string_string.l0 (d + 1) l l l.length i = some true := by
  intro d
  induction d with
  | zero =>
    intro i h
    rw [slices_Equal_string_string.l0, if_neg (by omega)]
  | succ d ih =>
    intro i h
    rw [slices_Equal_string_string.l0]
    rw [if_pos (by omega), if_pos (by omega), if_pos (by omega), if_pos (by omega), if_pos rfl, w64 (by omega) (by omega)]
    exact ih (i + 1) (by omega)

theorem equalS_calls (A0 : Option Addr) (c0 : Nat) (l : List ByteArray) (A1 : Option Addr) (c1 : Nat) (w : World) (hl : l.length ≤ 1000001) (hr0 : Kd.C Kd.string w A0 l.length l) (hc0 : l.length ≤ c0) (hr1 : Kd.C Kd.string w A1 l.length l) (hc1 : l.length ≤ c1) :
    Calls Try.prog 22 #[.slice A0 l.length c0, .slice A1 l.length c1] w fun e w' => e = .returned (.bool true) ∧ Below w.heap.size w w' := by
  have h : slices_Equal_string_string.f (l.length + 1) l l = some true := by
    unfold slices_Equal_string_string.f; rw [if_pos rfl]; exact equalS_from l hl l.length 0 (by omega)
  exact (slices_Equal_string_string.calls _ A0 c0 l A1 c1 l true w hr0 hc0 hr1 hc1 h).mono fun e w' ⟨he, hd⟩ => ⟨he, hd.below⟩

/-! ### digits, letters, values -/
def isDigit (r : Int) : Bool := decide (48 ≤ r ∧ r ≤ 57)
def isAlpha (r : Int) : Bool := decide ((97 ≤ r ∧ r ≤ 122) ∨ (65 ≤ r ∧ r ≤ 90))
def valueOf (r : Int) : Int := if 48 ≤ r ∧ r ≤ 57 then r - 48 else if 97 ≤ r ∧ r ≤ 102 then r - 87 else if 65 ≤ r ∧ r ≤ 70 then r - 55 else -1

theorem digit_eq (r : Int) : scalar_Digit.f r = some (isDigit r) := by
  unfold scalar_Digit.f isDigit
  split
  · congr 1; exact decide_eq_decide.2 ⟨fun h => by omega, fun h => by omega⟩
  · congr 1; rw [eq_comm, decide_eq_false_iff_not]; omega
theorem digit_ref (r : Int) : mantrapref01_Digit.f r = some (isDigit r) := by
  unfold mantrapref01_Digit.f isDigit
  split
  · congr 1; exact decide_eq_decide.2 ⟨fun h => by omega, fun h => by omega⟩
  · congr 1; rw [eq_comm, decide_eq_false_iff_not]; omega
theorem alpha_eq (r : Int) : scalar_Alpha.f r = some (isAlpha r) := by
  unfold scalar_Alpha.f isAlpha
  repeat' split
  all_goals congr 1
  all_goals first | exact decide_eq_decide.2 ⟨fun h => by omega, fun h => by omega⟩ | (rw [eq_comm, decide_eq_false_iff_not]; omega) | (rw [eq_comm, decide_eq_true_iff]; omega)
theorem alpha_ref (r : Int) : mantrapref01_Alpha.f r = some (isAlpha r) := by
  unfold mantrapref01_Alpha.f isAlpha
  repeat' split
  all_goals congr 1
  all_goals first | exact decide_eq_decide.2 ⟨fun h => by omega, fun h => by omega⟩ | (rw [eq_comm, decide_eq_false_iff_not]; omega) | (rw [eq_comm, decide_eq_true_iff]; omega)

theorem value_eq (r : Int) (h0 : -2147483648 ≤ r) (h1 : r ≤ 2147483647) : scalar_Value.f 1 r = some (valueOf r) := by
  unfold scalar_Value.f valueOf
  rw [digit_eq, Option.bind_some]
  by_cases c : 48 ≤ r ∧ r ≤ 57
  · have D : isDigit r = true := decide_eq_true c
    rw [if_pos D, if_pos c, w32 (by omega) (by omega), w64 (by omega) (by omega)]
  · have D : ¬ isDigit r = true := by unfold isDigit; rw [decide_eq_true_iff]; exact c
    rw [if_neg D, if_neg c]
    by_cases d : 97 ≤ r
    · rw [if_pos d, scalar_Value.j0]
      by_cases e : r ≤ 102
      · rw [if_pos (decide_eq_true e), if_pos (show 97 ≤ r ∧ r ≤ 102 from ⟨d, e⟩), w32 (by omega) (by omega), w64 (x := r - 97) (by omega) (by omega), w64 (by omega) (by omega)]
        congr 1; omega
      · have E : ¬ decide (r ≤ 102) = true := by rw [decide_eq_true_iff]; exact e
        rw [if_neg E, if_pos (show r ≥ 65 by omega), if_neg (show ¬ r ≤ 70 by omega), if_neg (show ¬ (97 ≤ r ∧ r ≤ 102) by omega), if_neg (show ¬ (65 ≤ r ∧ r ≤ 70) by omega)]
    · rw [if_neg d, scalar_Value.j0, if_neg (show ¬ (false = true) by simp), if_neg (show ¬ (97 ≤ r ∧ r ≤ 102) by omega)]
      by_cases g : 65 ≤ r
      · rw [if_pos g]
        by_cases e : r ≤ 70
        · rw [if_pos e, if_pos (show 65 ≤ r ∧ r ≤ 70 from ⟨g, e⟩), w32 (by omega) (by omega), w64 (x := r - 65) (by omega) (by omega), w64 (by omega) (by omega)]
          congr 1; omega
        · rw [if_neg e, if_neg (show ¬ (65 ≤ r ∧ r ≤ 70) by omega)]
      · rw [if_neg g, if_neg (show ¬ (65 ≤ r ∧ r ≤ 70) by omega)]

theorem value_ref (r : Int) (h0 : -2147483648 ≤ r) (h1 : r ≤ 2147483647) : mantrapref01_Value.f 2 r = some (valueOf r) := by
  have hw : wrap64 r = r := w64 (by omega) (by omega)
  have j1 : ∀ x : Bool, mantrapref01_Value.j1 1 r x = if x = true then some (r - 55) else if r ≥ 97 then (if r ≤ 102 then some (r - 87) else some (-1)) else some (-1) := by
    intro x
    rw [mantrapref01_Value.j1, hw, w64 (x := r - 55) (by omega) (by omega), w64 (x := r - 87) (by omega) (by omega)]
  have j0 : ∀ x : Bool, mantrapref01_Value.j0 2 r x = if x = true then some (r - 48) else if r ≥ 65 then mantrapref01_Value.j1 1 r (decide (r ≤ 70)) else mantrapref01_Value.j1 1 r false := by
    intro x
    rw [mantrapref01_Value.j0, hw, w64 (x := r - 48) (by omega) (by omega)]
  unfold mantrapref01_Value.f valueOf
  rw [j0, j0, j1, j1]
  have N : ¬ (false = true) := by simp
  by_cases c : 48 ≤ r ∧ r ≤ 57
  · have D : decide (r ≤ 57) = true := decide_eq_true c.2
    rw [if_pos (show r ≥ 48 by omega), if_pos D, if_pos c]
  · rw [if_neg c]
    by_cases a : 48 ≤ r
    · have D : ¬ decide (r ≤ 57) = true := by rw [decide_eq_true_iff]; omega
      rw [if_pos (show r ≥ 48 by omega), if_neg D]
      by_cases g : 65 ≤ r
      · rw [if_pos (show r ≥ 65 by omega)]
        by_cases e : r ≤ 70
        · have E : decide (r ≤ 70) = true := decide_eq_true e
          rw [if_pos E, if_neg (show ¬ (97 ≤ r ∧ r ≤ 102) by omega), if_pos (show 65 ≤ r ∧ r ≤ 70 from ⟨g, e⟩)]
        · have E : ¬ decide (r ≤ 70) = true := by rw [decide_eq_true_iff]; exact e
          rw [if_neg E]
          by_cases d : 97 ≤ r
          · rw [if_pos (show r ≥ 97 by omega)]
            by_cases d2 : r ≤ 102
            · rw [if_pos d2, if_pos (show 97 ≤ r ∧ r ≤ 102 from ⟨d, d2⟩)]
            · rw [if_neg d2, if_neg (show ¬ (97 ≤ r ∧ r ≤ 102) by omega), if_neg (show ¬ (65 ≤ r ∧ r ≤ 70) by omega)]
          · rw [if_neg (show ¬ r ≥ 97 by omega), if_neg (show ¬ (97 ≤ r ∧ r ≤ 102) by omega), if_neg (show ¬ (65 ≤ r ∧ r ≤ 70) by omega)]
      · rw [if_neg (show ¬ r ≥ 65 by omega), if_neg N, if_neg (show ¬ r ≥ 97 by omega), if_neg (show ¬ (97 ≤ r ∧ r ≤ 102) by omega), if_neg (show ¬ (65 ≤ r ∧ r ≤ 70) by omega)]
    · rw [if_neg (show ¬ r ≥ 48 by omega), if_neg N, if_neg (show ¬ r ≥ 65 by omega), if_neg N, if_neg (show ¬ r ≥ 97 by omega), if_neg (show ¬ (97 ≤ r ∧ r ≤ 102) by omega), if_neg (show ¬ (65 ≤ r ∧ r ≤ 70) by omega)]

end Go.Proofs.Ytgmhfeldahanpaa.A
