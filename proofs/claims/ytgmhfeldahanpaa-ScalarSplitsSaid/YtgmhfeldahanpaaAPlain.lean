/-
  Plain Lean: the code points of bytes ('runes'), the bytes of code points ('textL'), and that writing and reading fit together. No program in sight.
-/
import Derived.Lib.DecodeN
import Derived.Lib.RuneBytes
import Derived.Laws.RangeAny
import Derived.Laws.RangeString
namespace Go.Proofs.Ytgmhfeldahanpaa.A
set_option linter.unusedVariables false

theorem getB (s : ByteArray) (i : Nat) : s.get! i = s.data.toList.getD i 0 := by
  show s.data[i]! = _
  rw [List.getD_eq_getElem?_getD, Array.getElem?_toList, getElem!_def]
  cases s.data[i]? <;> rfl

theorem size_len (s : ByteArray) : s.size = s.data.toList.length := by
  rw [Array.length_toList]; rfl

/-- One step of reading, on a list. -/
def decL (l : List UInt8) : Nat × Nat := Lib.decodeN l.length (l.getD 0 0).toNat (l.getD 1 0).toNat (l.getD 2 0).toNat (l.getD 3 0).toNat

theorem getD_drop (l : List UInt8) (p i : Nat) : (l.drop p).getD i 0 = l.getD (p + i) 0 := by
  rw [List.getD_eq_getElem?_getD, List.getD_eq_getElem?_getD, List.getElem?_drop]

theorem decode_drop (s : ByteArray) (p : Nat) : Utf8.decode s p = decL (s.data.toList.drop p) := by
  rw [Lib.decode_at, decL, getB, getB, getB, getB, getD_drop, getD_drop, getD_drop, getD_drop, List.length_drop, ← size_len]
  rfl

def runesL : Nat → List UInt8 → List Int
  | 0, _ => []
  | f + 1, l => if l = [] then [] else ((decL l).1 : Int) :: runesL f (l.drop (decL l).2)

def runesFrom (s : ByteArray) : Nat → Nat → List Int
  | 0, _ => []
  | f + 1, pos => if pos < s.size then ((Utf8.decode s pos).1 : Int) :: runesFrom s f (pos + (Utf8.decode s pos).2) else []
def runes (s : ByteArray) : List Int := runesFrom s s.size 0

theorem width_pos (s : ByteArray) (pos : Nat) (h : pos < s.size) : 1 ≤ (Utf8.decode s pos).2 := by
  by_cases ha : (s[pos]'h).toNat < 128
  · rw [decode_ascii s pos h ha]
    exact Nat.le_refl _
  · exact (decode_high s pos h (by omega)).2

theorem runesFrom_end (s : ByteArray) (f pos : Nat) (h : ¬ pos < s.size) : runesFrom s f pos = [] := by
  cases f with
  | zero => rfl
  | succ f => simp [runesFrom, h]

theorem runesFrom_drop (s : ByteArray) : ∀ f pos, runesFrom s f pos = runesL f (s.data.toList.drop pos)
  | 0, _ => rfl
  | f + 1, pos => by
    rw [runesFrom, runesL, ← decode_drop, List.drop_drop, runesFrom_drop s f]
    have e : (pos < s.size) = ¬ (s.data.toList.drop pos = []) := by
      rw [List.drop_eq_nil_iff, size_len]; exact propext ⟨fun h => by omega, fun h => by omega⟩
    by_cases h : pos < s.size
    · rw [if_pos h, if_neg (e ▸ h)]
    · rw [if_neg h, if_pos (by rw [e] at h; exact Classical.not_not.1 h)]

theorem runes_eq (s : ByteArray) : runes s = runesL s.data.toList.length s.data.toList := by
  rw [runes, runesFrom_drop, List.drop_zero, size_len]

/-- Every number stands for a code point: itself, or FFFD. -/
def fix (r : Int) : Int := if 0 ≤ r ∧ r ≤ 1114111 ∧ (r < 55296 ∨ 57343 < r) then r else 65533

theorem fix_of {r : Int} (h : 0 ≤ r ∧ r ≤ 1114111 ∧ (r < 55296 ∨ 57343 < r)) : fix r = r := if_pos h
theorem fix_no {r : Int} (h : ¬ (0 ≤ r ∧ r ≤ 1114111 ∧ (r < 55296 ∨ 57343 < r))) : fix r = 65533 := if_neg h

theorem encode_fix (r : Int) : Lib.encodeRune (fix r) = Lib.encodeRune r := by
  by_cases h : 0 ≤ r ∧ r ≤ 1114111 ∧ (r < 55296 ∨ 57343 < r)
  · rw [fix_of h]
  · rw [fix_no h]
    simp only [Lib.encodeRune]
    rw [Lib.encodeRuneZ_bad (r := r) (by omega), Lib.encodeRuneZ_three (by omega)]
    decide

theorem u8 {x : Int} (h0 : 0 ≤ x) (h1 : x < 256) : (x.toNat.toUInt8).toNat = x.toNat := by
  simp; omega

theorem len_pos (r : Int) : 1 ≤ (Lib.encodeRune r).length := by
  simp only [Lib.encodeRune, List.length_map]; exact (Lib.encodeRuneZ_length r).1
theorem len_le (r : Int) : (Lib.encodeRune r).length ≤ 4 := by
  simp only [Lib.encodeRune, List.length_map]; exact (Lib.encodeRuneZ_length r).2

/-- What was written is read. -/
theorem decL_encode (r : Int) (t : List UInt8) : decL (Lib.encodeRune r ++ t) = ((fix r).toNat, (Lib.encodeRune r).length) := by
  rw [← encode_fix r]
  have hf : 0 ≤ fix r ∧ fix r ≤ 1114111 ∧ (fix r < 55296 ∨ 57343 < fix r) := by
    by_cases h : 0 ≤ r ∧ r ≤ 1114111 ∧ (r < 55296 ∨ 57343 < r)
    · rw [fix_of h]; exact h
    · rw [fix_no h]; omega
  generalize fix r = r at hf
  obtain ⟨h0, h1, h2⟩ := hf
  by_cases c1 : r ≤ 127
  · have e : Lib.encodeRune r = [r.toNat.toUInt8] := by simp [Lib.encodeRune, Lib.encodeRuneZ_one h0 c1]
    rw [e]
    have a := u8 h0 (by omega)
    simp only [decL, List.cons_append, List.nil_append, List.getD_cons_zero, List.length_cons, List.length_nil]
    rw [a]
    unfold Lib.decodeN
    rw [if_pos (by omega)]
  · by_cases c2 : r ≤ 2047
    · have e : Lib.encodeRune r = [(192 + r / 64).toNat.toUInt8, (128 + r % 64).toNat.toUInt8] := by simp [Lib.encodeRune, Lib.encodeRuneZ_two (by omega : 128 ≤ r) c2]
      rw [e]
      have a := u8 (x := 192 + r / 64) (by omega) (by omega)
      have b := u8 (x := 128 + r % 64) (by omega) (by omega)
      simp only [decL, List.cons_append, List.nil_append, List.getD_cons_zero, List.getD_cons_succ, List.length_cons, List.length_nil]
      rw [a, b]
      unfold Lib.decodeN
      rw [if_neg (by omega), if_pos (by omega), if_pos (by omega)]
      exact Prod.ext (by simp only; omega) rfl
    · by_cases c3 : r ≤ 65535
      · have e : Lib.encodeRune r = [(224 + r / 4096).toNat.toUInt8, (128 + r / 64 % 64).toNat.toUInt8, (128 + r % 64).toNat.toUInt8] := by simp [Lib.encodeRune, Lib.encodeRuneZ_three (r := r) (by omega)]
        rw [e]
        have a := u8 (x := 224 + r / 4096) (by omega) (by omega)
        have b := u8 (x := 128 + r / 64 % 64) (by omega) (by omega)
        have c := u8 (x := 128 + r % 64) (by omega) (by omega)
        simp only [decL, List.cons_append, List.nil_append, List.getD_cons_zero, List.getD_cons_succ, List.length_cons, List.length_nil]
        rw [a, b, c]
        unfold Lib.decodeN
        rw [if_neg (by omega), if_neg (by omega), if_pos (by omega), if_pos (by omega)]
        exact Prod.ext (by simp only; omega) rfl
      · have e : Lib.encodeRune r = [(240 + r / 262144).toNat.toUInt8, (128 + r / 4096 % 64).toNat.toUInt8, (128 + r / 64 % 64).toNat.toUInt8, (128 + r % 64).toNat.toUInt8] := by simp [Lib.encodeRune, Lib.encodeRuneZ_four (by omega : 65536 ≤ r) h1]
        rw [e]
        have a := u8 (x := 240 + r / 262144) (by omega) (by omega)
        have b := u8 (x := 128 + r / 4096 % 64) (by omega) (by omega)
        have c := u8 (x := 128 + r / 64 % 64) (by omega) (by omega)
        have d := u8 (x := 128 + r % 64) (by omega) (by omega)
        simp only [decL, List.cons_append, List.nil_append, List.getD_cons_zero, List.getD_cons_succ, List.length_cons, List.length_nil]
        rw [a, b, c, d]
        unfold Lib.decodeN
        rw [if_neg (by omega), if_neg (by omega), if_neg (by omega), if_pos (by omega), if_pos (by omega)]
        exact Prod.ext (by simp only; omega) rfl

/-- The bytes of some numbers. -/
def textL (l : List Int) : List UInt8 := l.flatMap Lib.encodeRune
def text (l : List Int) : ByteArray := ⟨(textL l).toArray⟩

theorem textL_nil : textL [] = [] := rfl
theorem textL_cons (r : Int) (l : List Int) : textL (r :: l) = Lib.encodeRune r ++ textL l := by simp [textL]
theorem textL_append (l m : List Int) : textL (l ++ m) = textL l ++ textL m := by simp [textL]
theorem textL_le : ∀ l : List Int, (textL l).length ≤ 4 * l.length
  | [] => by simp [textL]
  | r :: l => by
    have := textL_le l
    have := len_le r
    rw [textL_cons, List.length_append, List.length_cons]; omega
theorem text_data (l : List Int) : (text l).data.toList = textL l := by simp [text]
theorem text_size (l : List Int) : (text l).size ≤ 4 * l.length := by rw [size_len, text_data]; exact textL_le l

theorem textL_fix : ∀ l : List Int, textL (l.map fix) = textL l
  | [] => rfl
  | r :: l => by rw [List.map_cons, textL_cons, textL_cons, encode_fix, textL_fix l]

theorem runesL_textL : ∀ (f : Nat) (l : List Int), (textL l).length ≤ f → runesL f (textL l) = l.map fix
  | 0, l, h => by
    cases l with
    | nil => rfl
    | cons r l => have := len_pos r; rw [textL_cons, List.length_append] at h; omega
  | f + 1, l, h => by
    cases l with
    | nil => simp [runesL, textL]
    | cons r l =>
      have hp := len_pos r
      have hne : ¬ (textL (r :: l) = []) := by
        intro e
        have := congrArg List.length e
        rw [textL_cons, List.length_append, List.length_nil] at this
        omega
      rw [runesL, if_neg hne, textL_cons, decL_encode, List.drop_left' rfl, List.map_cons, runesL_textL f l (by rw [textL_cons, List.length_append] at h; omega)]
      have : 0 ≤ fix r := by
        by_cases h : 0 ≤ r ∧ r ≤ 1114111 ∧ (r < 55296 ∨ 57343 < r)
        · rw [fix_of h]; omega
        · rw [fix_no h]; omega
      rw [Int.toNat_of_nonneg this]

/-- Code points are read again as they were written. -/
theorem runes_text (l : List Int) : runes (text l) = l.map fix := by
  rw [runes_eq, text_data]
  exact runesL_textL _ _ (Nat.le_refl _)

/-- A text that was written is read and written the same. -/
theorem text_runes_text (l : List Int) : text (runes (text l)) = text l := by
  rw [runes_text]; unfold text; rw [textL_fix]

theorem runesFrom_length (s : ByteArray) : ∀ f pos, (runesFrom s f pos).length ≤ f
  | 0, _ => by simp [runesFrom]
  | f + 1, pos => by
    rw [runesFrom]
    split
    · have := runesFrom_length s f (pos + (Utf8.decode s pos).2); rw [List.length_cons]; omega
    · simp
theorem runes_length (s : ByteArray) : (runes s).length ≤ s.size := runesFrom_length s _ _

theorem runesFrom_bound (s : ByteArray) : ∀ f pos, ∀ x ∈ runesFrom s f pos, 0 ≤ x ∧ x ≤ 2147483647
  | 0, _ => by simp [runesFrom]
  | f + 1, pos => by
    rw [runesFrom]
    split
    · intro x hx
      rcases List.mem_cons.1 hx with rfl | hx
      · have := decode_le s pos; omega
      · exact runesFrom_bound s f _ x hx
    · simp
theorem runes_bound (s : ByteArray) : ∀ x ∈ runes s, 0 ≤ x ∧ x ≤ 2147483647 := runesFrom_bound s _ _

end Go.Proofs.Ytgmhfeldahanpaa.A
