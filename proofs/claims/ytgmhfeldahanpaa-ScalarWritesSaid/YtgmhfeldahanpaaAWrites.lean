/-
  What the reference's writers compute: One is the UTF-8 of one number, Text of some.
-/
import Derived.Test.YtgmhfeldahanpaaPScalarWritesx3
import Derived.Test.YtgmhfeldahanpaaAText
namespace Go.Proofs.Ytgmhfeldahanpaa.A
open Go.RowKit Go.Proofs.YtgmhfeldahanpaaW.PrintWords Go.Proofs.YtgmhfeldahanpaaW.PrintLast Go.Proofs.YtgmhfeldahanpaaW.PrintMore
open Go.Proofs.Ytgmhfeldahanpaa.PScalarWrites
set_option linter.unusedVariables false

theorem is_eqW (r : Int) : mantrapref01_Is.f r = some (decide (0 ≤ r ∧ r ≤ 1114111 ∧ (r < 55296 ∨ 57343 < r))) := by
  unfold mantrapref01_Is.f
  repeat' split
  all_goals (congr 1; rw [eq_comm])
  all_goals first | (rw [decide_eq_true_iff]; omega) | (rw [decide_eq_false_iff_not]; omega) | (congr 1; exact propext ⟨fun h => by omega, fun h => by omega⟩)

theorem strOfNums_text (r : Int) (xs : List Int) (h : xs = Lib.encodeRuneZ r) : strOfNums xs = text [r] := by
  subst h
  apply ByteArray.ext
  apply Array.ext'
  rw [text_data, textL_cons, textL_nil, List.append_nil]
  rfl

theorem one_j0 (k : Nat) (r : Int) (h0 : 0 ≤ r) (h1 : r ≤ 1114111) (h2 : r < 55296 ∨ 57343 < r) : mantrapref01_One.j0 (k + 1) r = some (text [r]) := by
  have td : ∀ c : Int, 0 < c → Int.tdiv r c = r / c := fun c _ => Int.tdiv_eq_ediv_of_nonneg h0
  have tm : ∀ x c : Int, 0 ≤ x → Int.tmod x c = x % c := fun x c hx => Int.tmod_eq_emod_of_nonneg hx
  rw [mantrapref01_One.j0]
  by_cases c1 : r < 128
  · rw [if_pos c1, strOfNums_text r]
    rw [Lib.encodeRuneZ_one h0 (by omega)]
    congr 1; omega
  · rw [if_neg c1]
    by_cases c2 : r < 2048
    · rw [if_pos c2, strOfNums_text r]
      rw [Lib.encodeRuneZ_two (by omega) (by omega), td 64 (by omega), tm r 64 h0]
      rw [w32 (x := r / 64) (by omega) (by omega), w32 (x := 192 + r / 64) (by omega) (by omega), w32 (x := 128 + r % 64) (by omega) (by omega)]
      congr 1
      · omega
      · congr 1; omega
    · rw [if_neg c2]
      by_cases c3 : r < 65536
      · rw [if_pos c3, strOfNums_text r]
        rw [Lib.encodeRuneZ_three (by omega), td 64 (by omega), td 4096 (by omega), tm r 64 h0]
        rw [w32 (x := r / 4096) (by omega) (by omega), w32 (x := r / 64) (by omega) (by omega), tm (r / 64) 64 (by omega), w32 (x := 224 + r / 4096) (by omega) (by omega), w32 (x := 128 + r / 64 % 64) (by omega) (by omega), w32 (x := 128 + r % 64) (by omega) (by omega)]
        congr 1
        · omega
        · congr 1
          · omega
          · congr 1; omega
      · rw [if_neg c3, strOfNums_text r]
        rw [Lib.encodeRuneZ_four (by omega) h1, td 64 (by omega), td 4096 (by omega), td 262144 (by omega), tm r 64 h0]
        rw [w32 (x := r / 262144) (by omega) (by omega), w32 (x := r / 4096) (by omega) (by omega), w32 (x := r / 64) (by omega) (by omega), tm (r / 64) 64 (by omega), tm (r / 4096) 64 (by omega), w32 (x := 240 + r / 262144) (by omega) (by omega), w32 (x := 128 + r / 4096 % 64) (by omega) (by omega), w32 (x := 128 + r / 64 % 64) (by omega) (by omega), w32 (x := 128 + r % 64) (by omega) (by omega)]
        congr 1
        · omega
        · congr 1
          · omega
          · congr 1
            · omega
            · congr 1; omega

theorem text_one_fix (r : Int) : text [fix r] = text [r] := by
  unfold text; rw [textL_cons, textL_cons, encode_fix]

theorem one_eq (k : Nat) (r : Int) : mantrapref01_One.f (k + 1) r = some (text [r]) := by
  unfold mantrapref01_One.f
  rw [is_eqW, Option.bind_some]
  by_cases h : 0 ≤ r ∧ r ≤ 1114111 ∧ (r < 55296 ∨ 57343 < r)
  · rw [if_pos (decide_eq_true h), one_j0 k r h.1 h.2.1 h.2.2]
  · rw [if_neg (by rw [decide_eq_true_iff]; exact h), one_j0 k 65533 (by omega) (by omega) (by omega), ← text_one_fix r, fix_no h]

theorem text_append (l m : List Int) : text (l ++ m) = text l ++ text m := by
  apply ByteArray.ext
  apply Array.ext'
  show _ = (text l ++ text m).data.toList
  rw [ByteArray.data_append, Array.toList_append, text_data, text_data, text_data, textL_append]

theorem text_from (l : List Int) (hl : l.length ≤ 1000000) : ∀ (f j : Nat), j + f = l.length → mantrapref01_Text.l0 (f + 2) (text (l.take j)) l l.length j = some (text l) := by
  intro f
  induction f with
  | zero =>
    intro j h
    rw [mantrapref01_Text.l0, if_neg (by omega), List.take_of_length_le (by omega)]
  | succ f ih =>
    intro j h
    have hj : j < l.length := by omega
    have hs := text_size (l.take j)
    have h1 := text_size [rd l j]
    rw [List.length_take] at hs
    rw [List.length_singleton] at h1
    rw [mantrapref01_Text.l0, if_pos (by omega), if_pos (by omega), if_pos (by omega), one_eq, Option.bind_some, if_pos (by omega), w64 (by omega) (by omega)]
    have e : text (l.take j) ++ text [rd l j] = text (l.take (j + 1)) := by
      rw [← text_append]
      congr 1
      rw [List.take_succ_eq_append_getElem hj]
      simp [rd, hj]
    rw [e]
    exact ih (j + 1) (by omega)

theorem ref_text (l : List Int) (hl : l.length ≤ 1000000) : ∃ k, mantrapref01_Text.f k l = some (text l) :=
  ⟨l.length + 2, by unfold mantrapref01_Text.f; exact text_from l hl l.length 0 (by omega)⟩

end Go.Proofs.Ytgmhfeldahanpaa.A
