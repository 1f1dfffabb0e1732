/-
  What scalar.Trim computes: a text without what is at most a blank, ahead and behind; and its contract.
-/
import Derived.Test.YtgmhfeldahanpaaPScalarTellsx1
import Derived.Test.YtgmhfeldahanpaaASplit
namespace Go.Proofs.Ytgmhfeldahanpaa.A
open Go.RowKit Go.Proofs.YtgmhfeldahanpaaW.PrintWords Go.Proofs.YtgmhfeldahanpaaW.PrintLast Go.Proofs.YtgmhfeldahanpaaW.PrintMore
open Go.Proofs.Ytgmhfeldahanpaa.PScalarTells
set_option linter.unusedVariables false

def blank (c : UInt8) : Bool := decide (c.toNat ≤ 32)
def trimF (l : List UInt8) : List UInt8 := l.dropWhile blank
def trimR (l : List UInt8) : List UInt8 := (l.reverse.dropWhile blank).reverse
def trimL (l : List UInt8) : List UInt8 := trimR (trimF l)
def trim (s : ByteArray) : ByteArray := str (trimL s.data.toList)

theorem trimR_nil : trimR [] = [] := rfl
theorem trimR_blank (l : List UInt8) (c : UInt8) (h : blank c = true) : trimR (l ++ [c]) = trimR l := by
  unfold trimR
  rw [List.reverse_append, List.reverse_singleton, List.singleton_append, List.dropWhile_cons_of_pos h]
theorem trimR_stop (l : List UInt8) (c : UInt8) (h : blank c = false) : trimR (l ++ [c]) = l ++ [c] := by
  unfold trimR
  rw [List.reverse_append, List.reverse_singleton, List.singleton_append, List.dropWhile_cons_of_neg (by rw [h]; simp)]
  simp
theorem trimF_blank (l : List UInt8) (c : UInt8) (h : blank c = true) : trimF (c :: l) = trimF l := List.dropWhile_cons_of_pos h
theorem trimF_stop (l : List UInt8) (c : UInt8) (h : blank c = false) : trimF (c :: l) = c :: l := List.dropWhile_cons_of_neg (by rw [h]; simp)

theorem str_size (l : List UInt8) : (str l).size = l.length := by rw [size_len, str_data]
theorem toList_eq (s : ByteArray) : s.toList = s.data.toList := Lib.toList_data s
theorem bt_str (l : List UInt8) (j : Nat) (h : j < l.length) : bt (str l) (j : Int) = ((l.getD j 0).toNat : Int) := by
  rw [bt_list _ j (by rw [str_size]; exact h), str_data]

theorem last_cases (l : List UInt8) : l = [] ∨ ∃ m c, l = m ++ [c] := by
  rcases List.eq_nil_or_concat l with h | ⟨m, c, h⟩
  · exact .inl h
  · exact .inr ⟨m, c, by rw [h, List.concat_eq_append]⟩

theorem l1_str : ∀ (k : Nat) (l : List UInt8), l.length < k → l.length ≤ 1000000 → scalar_Trim.l1 k (str l) = some (str (trimR l)) := by
  intro k
  induction k with
  | zero => intro l h _; omega
  | succ k ih =>
    intro l h hl
    rw [scalar_Trim.l1, toList_eq, str_data, str_size]
    rcases last_cases l with rfl | ⟨m, c, rfl⟩
    · rw [if_pos rfl, trimR_nil]
    · have hlen : (m ++ [c]).length = m.length + 1 := by simp
      have hne : ¬ (m ++ [c] = []) := by simp
      have e : wrap64 (((m ++ [c]).length : Int) - 1) = (m.length : Int) := by rw [w64 (by omega) (by omega)]; omega
      have hb : bt (str (m ++ [c])) (m.length : Int) = (c.toNat : Int) := by
        rw [bt_str _ _ (by omega)]; simp
      rw [if_neg hne, e, if_pos (by omega), if_pos (by omega), hb]
      by_cases hc : c.toNat ≤ 32
      · have hx : (str (m ++ [c])).extract 0 ((m.length : Int)).toNat = str m := by
          rw [show ((m.length : Int)).toNat = m.length by omega]
          exact str_eq (by rw [extract_td, str_data]; simp)
        rw [if_pos (by omega), if_pos (by omega), hx, ih m (by omega) (by omega), trimR_blank m c (decide_eq_true hc)]
      · rw [if_neg (by omega), trimR_stop m c (decide_eq_false hc)]

theorem l0_str : ∀ (k : Nat) (l : List UInt8), 2 * l.length + 2 < k → l.length ≤ 1000000 → scalar_Trim.l0 k (str l) = some (str (trimL l)) := by
  intro k
  induction k with
  | zero => intro l h _; omega
  | succ k ih =>
    intro l h hl
    have hj : ∀ m : List UInt8, m.length ≤ l.length → scalar_Trim.j1 k (str m) = some (str (trimR m)) := by
      intro m hm
      obtain ⟨k', rfl⟩ : ∃ k', k = k' + 1 := ⟨k - 1, by omega⟩
      rw [scalar_Trim.j1]
      exact l1_str k' m (by omega) (by omega)
    rw [scalar_Trim.l0, toList_eq, str_data, str_size]
    cases l with
    | nil => rw [if_pos rfl, hj [] (by simp)]; rfl
    | cons c t =>
      have hne : ¬ (c :: t = []) := by simp
      have hb : bt (str (c :: t)) 0 = (c.toNat : Int) := by
        have := bt_str (c :: t) 0 (by simp)
        simpa using this
      have hp : (0 : Int) < ((c :: t).length : Int) := by rw [List.length_cons]; omega
      have hp1 : (1 : Int) ≤ ((c :: t).length : Int) := by rw [List.length_cons]; omega
      rw [if_neg hne, if_pos hp, hb]
      by_cases hc : c.toNat ≤ 32
      · have hx : (str (c :: t)).extract 1 (c :: t).length = str t := str_eq (by rw [extract_td, str_data, List.take_length]; rfl)
        rw [if_pos (by omega), if_pos hp1, hx, ih t (by rw [List.length_cons] at h; omega) (by rw [List.length_cons] at hl; omega)]
        unfold trimL
        rw [trimF_blank t c (decide_eq_true hc)]
      · rw [if_neg (by omega), hj _ (Nat.le_refl _)]
        unfold trimL
        rw [trimF_stop t c (decide_eq_false hc)]

theorem trim_eq (s : ByteArray) (hs : s.size ≤ 1000000) : ∃ k, scalar_Trim.f k s = some (trim s) := by
  refine ⟨2 * s.size + 3, ?_⟩
  have := l0_str (2 * s.size + 3) s.data.toList (by rw [size_len]; omega) (by rw [← size_len]; exact hs)
  rw [str_of] at this
  exact this

theorem trim_calls (s : ByteArray) (w : World) (hs : s.size ≤ 1000000) : Calls Try.prog 18 #[.string s] w fun e w' => e = .returned (.string (trim s)) ∧ Below w.heap.size w w' := by
  obtain ⟨k, h⟩ := trim_eq s hs
  exact (scalar_Trim.calls k s (trim s) w h).mono fun e w' ⟨he, hd⟩ => ⟨he, hd.below⟩

end Go.Proofs.Ytgmhfeldahanpaa.A
