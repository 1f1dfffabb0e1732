/-
  What ScalarBack needs besides: parts are put together again; Trim and Lower twice are Trim and Lower once; strings.Join over the call's own parts; the reference's Is.
-/
import Derived.Test.YtgmhfeldahanpaaAAwake
import Derived.Test.YtgmhfeldahanpaaATrim
import Derived.Test.YtgmhfeldahanpaaALower
namespace Go.Proofs.Ytgmhfeldahanpaa.A
open Go.RowKit Go.Proofs.YtgmhfeldahanpaaW.PrintWords Go.Proofs.YtgmhfeldahanpaaW.PrintLast Go.Proofs.YtgmhfeldahanpaaW.PrintMore
set_option linter.unusedVariables false
set_option linter.unusedSimpArgs false

/-! ### Lower, Trim twice -/
theorem lowB_lowB (c : UInt8) : lowB (lowB c) = lowB c := by
  by_cases h : 65 ≤ c.toNat ∧ c.toNat ≤ 90
  · refine lowB_id _ ?_
    rw [lowB_up c h]; omega
  · rw [lowB_id c h, lowB_id c h]
theorem lower_lower (s : ByteArray) : lower (lower s) = lower s := by
  have : (lower s).data.toList = s.data.toList.map lowB := by simp [lower]
  unfold lower at *
  rw [this, List.map_map]
  congr 2
  exact List.map_congr_left fun c _ => lowB_lowB c
theorem lower_size (s : ByteArray) : (lower s).size = s.size := by
  rw [size_len, size_len]; simp [lower]

theorem trimF_le (l : List UInt8) : (trimF l).length ≤ l.length := (List.dropWhile_sublist _).length_le
theorem trimR_le (l : List UInt8) : (trimR l).length ≤ l.length := by
  unfold trimR
  rw [List.length_reverse]
  have := (List.dropWhile_sublist blank (l := l.reverse)).length_le
  rw [List.length_reverse] at this
  exact this
theorem trimL_le (l : List UInt8) : (trimL l).length ≤ l.length := Nat.le_trans (trimR_le _) (trimF_le _)
theorem trim_size (s : ByteArray) : (trim s).size ≤ s.size := by
  rw [trim, str_size, size_len]; exact trimL_le _

theorem trimR_fix_n : ∀ (n : Nat) (l : List UInt8), l.length ≤ n → trimR (trimR l) = trimR l := by
  intro n
  induction n with
  | zero =>
    intro l h
    obtain rfl : l = [] := List.length_eq_zero_iff.1 (by omega)
    rfl
  | succ n ih =>
    intro l h
    rcases last_cases l with rfl | ⟨m, c, rfl⟩
    · rfl
    · rw [List.length_append, List.length_singleton] at h
      cases hc : blank c with
      | true =>
        rw [trimR_blank m c hc]
        exact ih m (by omega)
      | false => rw [trimR_stop m c hc, trimR_stop m c hc]
theorem trimR_fix (l : List UInt8) : trimR (trimR l) = trimR l := trimR_fix_n _ l (Nat.le_refl _)
theorem trimF_nothing (l : List UInt8) (h : ∀ c t, l = c :: t → blank c = false) : trimF l = l := by
  cases l with
  | nil => rfl
  | cons c t => exact trimF_stop t c (h c t rfl)
theorem trimF_head (l : List UInt8) : ∀ c t, trimF l = c :: t → blank c = false := by
  induction l with
  | nil => intro c t h; cases h
  | cons a l ih =>
    intro c t h
    cases ha : blank a with
    | true => rw [trimF_blank l a ha] at h; exact ih c t h
    | false =>
      rw [trimF_stop l a ha] at h
      injection h with h1 h2
      rw [← h1]; exact ha
/-- What trimR leaves begins as it began. -/
theorem trimR_head_n : ∀ (n : Nat) (l : List UInt8), l.length ≤ n → ∀ c t, trimR l = c :: t → ∃ t', l = c :: t' := by
  intro n
  induction n with
  | zero =>
    intro l h c t e
    obtain rfl : l = [] := List.length_eq_zero_iff.1 (by omega)
    cases e
  | succ n ih =>
    intro l hl c t h
    rcases last_cases l with rfl | ⟨m, d, rfl⟩
    · cases h
    · rw [List.length_append, List.length_singleton] at hl
      cases hd : blank d with
      | true =>
        rw [trimR_blank m d hd] at h
        obtain ⟨t', e⟩ := ih m (by omega) c t h
        exact ⟨t' ++ [d], by rw [e]; rfl⟩
      | false =>
        rw [trimR_stop m d hd] at h
        exact ⟨t, h⟩
theorem trimR_head (l : List UInt8) : ∀ c t, trimR l = c :: t → ∃ t', l = c :: t' := trimR_head_n _ l (Nat.le_refl _)
theorem trimL_trimL (l : List UInt8) : trimL (trimL l) = trimL l := by
  unfold trimL
  rw [trimF_nothing (trimR (trimF l)) fun c t h => ?_, trimR_fix]
  obtain ⟨t', e⟩ := trimR_head _ c t h
  exact trimF_head l c t' e
theorem trim_trim (s : ByteArray) : trim (trim s) = trim s := by
  unfold trim
  rw [str_data, trimL_trimL]

/-! ### Join of Split -/
theorem splitA_ne (sep : List UInt8) : ∀ (l cur : List UInt8), splitA sep cur l ≠ []
  | [], cur => by simp [splitA]
  | c :: t, cur => by
    rw [splitA]
    split
    · simp
    · exact splitA_ne sep t _

theorem join_more (x : List UInt8) (l : List (List UInt8)) (sep : List UInt8) (h : l ≠ []) : Lib.join (x :: l) sep = x ++ sep ++ Lib.join l sep := by
  cases l with
  | nil => exact absurd rfl h
  | cons y r =>
    rw [Lib.join_cons, Lib.join_cons]
    simp [Lib.joinTail]

theorem join_splitA (c : UInt8) : ∀ (l cur : List UInt8), Lib.join (splitA [c] cur l) [c] = cur ++ l
  | [], cur => by rw [splitA, Lib.join_one, List.append_nil]
  | d :: t, cur => by
    rw [splitA]
    by_cases h : d = c
    · subst h
      rw [if_pos (by simp), join_more _ _ _ (splitA_ne _ _ _), join_splitA d t []]
      simp
    · rw [if_neg (by simp [h]), join_splitA c t (cur ++ [d])]
      simp

theorem split_data (s sep : ByteArray) : (split s sep).map (·.data.toList) = splitA sep.data.toList [] s.data.toList := by
  rw [split, List.map_map]
  have : ((fun x : ByteArray => x.data.toList) ∘ str) = id := by funext l; exact str_data l
  rw [this, List.map_id]

/-- strings.Join of the parts, over the slice that Split has made. -/
theorem join_calls (s : ByteArray) (c : UInt8) (v : Value) (base : Nat) (w : World) (hs : s.size ≤ 1000000) (hr : Kd.R Kd.string 9 w base (fun _ => True) v (split s (str [c]))) :
    Calls Try.prog 32 #[v, .string (str [c])] w fun e w' => e = .returned (.string s) ∧ Below w.heap.size w w' := by
  have hlen := splitA_length [c] s.data.toList []
  have hl : (split s (str [c])).length ≤ s.size + 1 := by rw [split, List.length_map, str_data, size_len]; exact hlen
  have hp : 0 < (split s (str [c])).length := by
    rw [split, List.length_map]
    exact List.length_pos_iff.2 (splitA_ne _ _ _)
  obtain ⟨g, cap, rfl, hg, hlt, _⟩ := Kd.R_form hr hp
  have hcap : (split s (str [c])).length ≤ cap := by
    obtain ⟨A, c', e, h, _⟩ := Kd.R_reads hr
    injection e with _ _ h3
    omega
  have hj : Lib.join ((split s (str [c])).map (·.data.toList)) (str [c]).data.toList = s.data.toList := by
    rw [split_data, str_data, join_splitA, List.nil_append]
  have W := Try.strings_Join g 0 cap (split s (str [c])) (str [c]) w (fun j x hx => by
    have hjl := (List.getElem?_eq_some_iff.1 hx).1
    have := (Kd.R_cell ByteArray.empty hr (j : Int) (by omega) (by omega)).1
    rw [Nat.zero_add]
    have e1 : ((j : Int)).toNat = j := by omega
    rw [e1] at this
    have e2 : rdOf ByteArray.empty (split s (str [c])) (j : Int) = x := by
      unfold rdOf
      rw [e1, List.getD_eq_getElem?_getD, hx]
      rfl
    rw [e2] at this
    exact this) hlt (by omega) hcap (by rw [hj, ← size_len]; omega)
  rw [hj] at W
  have e : (⟨s.data.toList.toArray⟩ : ByteArray) = s := str_of s
  rw [e] at W
  exact W

/-! ### the reference's Is -/
def isCp (r : Int) : Bool := decide (0 ≤ r ∧ r ≤ 1114111 ∧ (r < 55296 ∨ 57343 < r))
theorem is_calls (r : Int) (w : World) : Calls Try.prog 31 #[.int .i32 r] w fun e w' => e = .returned (.bool (isCp r)) ∧ Below w.heap.size w w' :=
  (PScalarReads.mantrapref01_Is.calls r (isCp r) w (is_eq r)).mono fun e w' ⟨he, hd⟩ => ⟨he, hd.below⟩
theorem fix_yes {r : Int} (h : isCp r = true) : fix r = r := fix_of (of_decide_eq_true h)
theorem fix_not {r : Int} (h : isCp r = false) : fix r = 65533 := fix_no (of_decide_eq_false h)
theorem take_fix (l : List Int) (j : Nat) (h : j < l.length) : (l.take (j + 1)).map fix = (l.take j).map fix ++ [fix (rd l (j : Int))] := by
  rw [List.take_succ_eq_append_getElem h, List.map_append]
  simp [rd, h]
end Go.Proofs.Ytgmhfeldahanpaa.A
