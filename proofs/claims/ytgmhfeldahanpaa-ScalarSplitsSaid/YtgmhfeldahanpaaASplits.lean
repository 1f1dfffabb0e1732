/-
  What ScalarSplits needs: how many parts a text has, how long they are together, what is in none of them; what is trimmed and dropped has none of the three bytes.
-/
import Derived.Test.YtgmhfeldahanpaaAAwake
import Derived.Test.YtgmhfeldahanpaaATrim
import Derived.Test.YtgmhfeldahanpaaAIndex
namespace Go.Proofs.Ytgmhfeldahanpaa.A
open Go.RowKit Go.Proofs.YtgmhfeldahanpaaW.PrintWords Go.Proofs.YtgmhfeldahanpaaW.PrintLast Go.Proofs.YtgmhfeldahanpaaW.PrintMore
set_option linter.unusedVariables false
set_option linter.unusedSimpArgs false

/-- How many bytes of l are one of sep's. -/
def cnt (sep l : List UInt8) : Nat := (l.filter fun c => sep.contains c).length
theorem cnt_le (sep l : List UInt8) : cnt sep l ≤ l.length := List.length_filter_le _ _
theorem cnt_hit (sep l : List UInt8) (j : Nat) (h : j < l.length) (hc : sep.contains (l.getD j 0) = true) : cnt sep (l.take (j + 1)) = cnt sep (l.take j) + 1 := by
  rw [take_snocB l j h]; simp only [cnt, List.filter_append, List.length_append]
  rw [List.filter_cons_of_pos hc]; rfl
theorem cnt_miss (sep l : List UInt8) (j : Nat) (h : j < l.length) (hc : sep.contains (l.getD j 0) = false) : cnt sep (l.take (j + 1)) = cnt sep (l.take j) := by
  rw [take_snocB l j h]; simp only [cnt, List.filter_append, List.length_append]
  rw [List.filter_cons_of_neg (by rw [hc]; simp)]; rfl

theorem cnt_yes (sep t : List UInt8) (c : UInt8) (h : sep.contains c = true) : cnt sep (c :: t) = cnt sep t + 1 := by
  unfold cnt; rw [List.filter_cons_of_pos (by exact h)]; rfl
theorem cnt_no (sep t : List UInt8) (c : UInt8) (h : sep.contains c = false) : cnt sep (c :: t) = cnt sep t := by
  unfold cnt; rw [List.filter_cons_of_neg (by rw [h]; simp)]

theorem splitA_count (sep : List UInt8) : ∀ (l cur : List UInt8), (splitA sep cur l).length = 1 + cnt sep l
  | [], cur => rfl
  | c :: t, cur => by
    rw [splitA]
    cases h : sep.contains c with
    | true => rw [if_pos rfl, List.length_cons, splitA_count sep t [], cnt_yes sep t c h]; omega
    | false => rw [if_neg (by simp), splitA_count sep t _, cnt_no sep t c h]

def lens (ps : List (List UInt8)) : Nat := (ps.map List.length).sum
theorem splitA_lens (sep : List UInt8) : ∀ (l cur : List UInt8), cnt sep l + lens (splitA sep cur l) = cur.length + l.length
  | [], cur => by simp [splitA, lens, cnt]
  | c :: t, cur => by
    rw [splitA]
    cases h : sep.contains c with
    | true =>
      have ih := splitA_lens sep t []
      rw [if_pos rfl, cnt_yes sep t c h, List.length_cons]
      simp only [lens, List.map_cons, List.sum_cons, List.length_nil] at ih ⊢
      omega
    | false =>
      have ih := splitA_lens sep t (cur ++ [c])
      rw [if_neg (by simp), cnt_no sep t c h, List.length_cons]
      rw [List.length_append, List.length_singleton] at ih
      omega

theorem splitA_none (sep : List UInt8) : ∀ (l cur : List UInt8), (∀ c ∈ cur, sep.contains c = false) → ∀ p ∈ splitA sep cur l, ∀ c ∈ p, sep.contains c = false
  | [], cur, h, p, hp => by
    rw [splitA, List.mem_singleton] at hp
    subst hp
    exact h
  | c :: t, cur, h, p, hp => by
    rw [splitA] at hp
    cases hc : sep.contains c with
    | true =>
      rw [hc, if_pos rfl] at hp
      rcases List.mem_cons.1 hp with rfl | hp
      · exact h
      · exact splitA_none sep t [] (by simp) p hp
    | false =>
      rw [hc, if_neg (by simp)] at hp
      refine splitA_none sep t (cur ++ [c]) ?_ p hp
      intro d hd
      rcases List.mem_append.1 hd with hd | hd
      · exact h d hd
      · rw [List.mem_singleton] at hd
        rw [hd]; exact hc

/-- The parts' sizes, the first j of them. -/
def sums (ps : List ByteArray) (j : Nat) : Nat := ((ps.take j).map fun p => p.size).sum
theorem sums_succ (ps : List ByteArray) (j : Nat) (h : j < ps.length) : sums ps (j + 1) = sums ps j + (rdOf ByteArray.empty ps (j : Int)).size := by
  have e : rdOf ByteArray.empty ps (j : Int) = ps[j] := by
    unfold rdOf
    have : ((j : Int)).toNat = j := by omega
    rw [this]; simp [h]
  rw [e]
  simp only [sums]
  rw [List.take_succ_eq_append_getElem h, List.map_append, List.sum_append]
  simp
theorem sums_all (s sep : ByteArray) : cnt sep.data.toList s.data.toList + sums (split s sep) (split s sep).length = s.size := by
  have h := splitA_lens sep.data.toList s.data.toList []
  rw [List.length_nil, Nat.zero_add] at h
  have e : sums (split s sep) (split s sep).length = lens (splitA sep.data.toList [] s.data.toList) := by
    simp only [sums, lens]
    rw [List.take_length, split, List.map_map]
    congr 1
  rw [e, h, size_len]
theorem sums_le (s sep : ByteArray) (j : Nat) : sums (split s sep) j ≤ s.size := by
  have h := sums_all s sep
  have key : ∀ (ps : List ByteArray) (j : Nat), sums ps j ≤ sums ps ps.length := by
    intro ps j
    have e : sums ps ps.length = sums ps j + ((ps.drop j).map fun p => p.size).sum := by
      simp only [sums]
      rw [List.take_length, ← List.sum_append, ← List.map_append, List.take_append_drop]
    rw [e]
    exact Nat.le_add_right _ _
  have := key (split s sep) j
  omega
theorem split_count (s sep : ByteArray) : (split s sep).length = 1 + cnt sep.data.toList s.data.toList := by
  rw [split, List.length_map, splitA_count]

theorem rdOf_mem (ps : List ByteArray) (j : Nat) (h : j < ps.length) : rdOf ByteArray.empty ps (j : Int) ∈ ps := by
  have e : rdOf ByteArray.empty ps (j : Int) = ps[j] := by
    unfold rdOf
    have : ((j : Int)).toNat = j := by omega
    rw [this]; simp [h]
  rw [e]; exact List.getElem_mem h

/-- No byte of a part is one at which it was split. -/
theorem part_none (s sep p : ByteArray) (hp : p ∈ split s sep) (i : Nat) (hi : i < p.size) : sep.data.toList.contains (p.data.toList.getD i 0) = false := by
  rw [split, List.mem_map] at hp
  obtain ⟨l, hl, rfl⟩ := hp
  rw [str_size] at hi
  rw [str_data]
  refine splitA_none sep.data.toList s.data.toList [] (by simp) l hl _ ?_
  have : l.getD i 0 = l[i] := by simp [hi]
  rw [this]; exact List.getElem_mem hi

theorem indexByte_neg (sep : ByteArray) (c : UInt8) (h : sep.data.toList.contains c = false) : decide ((0 : Int) ≤ Lib.indexByte sep.data.toList c) = false := by
  rw [← Lib.contains_iff_indexByte]; exact h
theorem indexByte_pos (sep : ByteArray) (c : UInt8) (h : sep.data.toList.contains c = true) : decide ((0 : Int) ≤ Lib.indexByte sep.data.toList c) = true := by
  rw [← Lib.contains_iff_indexByte]; exact h

/-- strings.IndexByte of a text's byte: a number of which the sign is known. -/
theorem ib_calls (sep t : ByteArray) (j : Nat) (hj : j < t.size) (b : Bool) (h : sep.data.toList.contains (t.data.toList.getD j 0) = b) :
    ∃ q : Int, decide (0 ≤ q) = b ∧ ∀ w, Calls Try.prog 33 #[.string sep, .int .u8 (bt t (j : Int))] w fun e w' => e = .returned (.int .i64 q) ∧ w' = w := by
  refine ⟨Lib.indexByte sep.data.toList (t.data.toList.getD j 0), by rw [← Lib.contains_iff_indexByte]; exact h, fun w => ?_⟩
  have W := Try.strings_IndexByte sep (bt t (j : Int)) w
  have e : (bt t (j : Int)).toNat.toUInt8 = t.data.toList.getD j 0 := by rw [bt_list t j hj]; simp
  rw [e] at W
  exact W

/-! ### what is dropped -/
theorem drop_clean (s : ByteArray) : Clean (drop s) := by
  intro b hb
  have : (drop s).data.toList = dropL s.data.toList := by simp [drop]
  rw [this] at hb
  exact (List.mem_filter.1 hb).2
theorem drop_drop (s : ByteArray) : drop (drop s) = drop s := by
  have : (drop s).data.toList = dropL s.data.toList := by simp [drop]
  unfold drop at *
  rw [this]
  congr 2
  simp [dropL]
theorem drop_size (s : ByteArray) : (drop s).size ≤ s.size := by
  have e : drop s = str (dropL s.data.toList) := rfl
  rw [e, str_size, size_len]; exact dropL_le _
end Go.Proofs.Ytgmhfeldahanpaa.A
