/-
  The walk of scalar.Split: the parts between the bytes at which it is split.
-/
import Derived.Test.YtgmhfeldahanpaaAText
import Derived.Lib.Strings
import Derived.Lib.IndexAny
import Derived.Lib.IndexBytes
namespace Go.Proofs.Ytgmhfeldahanpaa.A
open Go.RowKit Go.Proofs.YtgmhfeldahanpaaW.PrintWords Go.Proofs.YtgmhfeldahanpaaW.PrintLast Go.Proofs.YtgmhfeldahanpaaW.PrintMore
set_option linter.unusedVariables false
set_option linter.unusedSimpArgs false

theorem info9 : (Try.prog.info? 9).map (fun i => (i.zero, i.size, i.bytes)) = some (some (.string ⟨#[]⟩), 1, 16) := by kernel_rfl

def str (l : List UInt8) : ByteArray := ⟨l.toArray⟩
theorem str_data (l : List UInt8) : (str l).data.toList = l := by simp [str]
theorem str_of (s : ByteArray) : str s.data.toList = s := by
  apply ByteArray.ext
  simp [str]
theorem str_eq {s : ByteArray} {l : List UInt8} (h : s.data.toList = l) : s = str l := by rw [← h, str_of]

theorem extract_td (s : ByteArray) (a b : Nat) : (s.extract a b).data.toList = (s.data.toList.take b).drop a := by
  rw [Lib.extract_data, List.drop_take]

/-- The parts: 'cur' is what the part at hand holds already. -/
def splitA (sep : List UInt8) : List UInt8 → List UInt8 → List (List UInt8)
  | cur, [] => [cur]
  | cur, c :: t => if sep.contains c then cur :: splitA sep [] t else splitA sep (cur ++ [c]) t
def split (s sep : ByteArray) : List ByteArray := (splitA sep.data.toList [] s.data.toList).map str

theorem drop_consB (l : List UInt8) (j : Nat) (h : j < l.length) : l.drop j = l.getD j 0 :: l.drop (j + 1) := by
  rw [List.drop_eq_getElem_cons h]; simp [h]

theorem splitA_length (sep : List UInt8) : ∀ (l cur : List UInt8), (splitA sep cur l).length ≤ l.length + 1
  | [], cur => by simp [splitA]
  | c :: t, cur => by
    rw [splitA]
    split
    · have := splitA_length sep t []; rw [List.length_cons, List.length_cons]; omega
    · have := splitA_length sep t (cur ++ [c]); rw [List.length_cons]; omega

/-- The state of the loop at place j: what is done, where the part at hand begins. -/
structure SplitSo (s sep : ByteArray) (j fr : Nat) (acc : List ByteArray) : Prop where
  le : fr ≤ j
  all : acc ++ (splitA sep.data.toList ((s.data.toList.take j).drop fr) (s.data.toList.drop j)).map str = split s sep
  len : acc.length ≤ j

theorem SplitSo.start (s sep : ByteArray) : SplitSo s sep 0 0 [] := ⟨Nat.le_refl _, by simp [split], Nat.le_refl _⟩

theorem SplitSo.hit {s sep : ByteArray} {j fr : Nat} {acc : List ByteArray} (h : SplitSo s sep j fr acc) (hj : j < s.data.toList.length) (hc : sep.data.toList.contains (s.data.toList.getD j 0) = true) :
    SplitSo s sep (j + 1) (j + 1) (acc ++ [s.extract fr j]) := by
  refine ⟨Nat.le_refl _, ?_, by rw [List.length_append, List.length_singleton]; have := h.len; omega⟩
  rw [← h.all, drop_consB _ j hj, splitA, if_pos hc, List.map_cons, List.append_assoc, List.singleton_append]
  have e : s.extract fr j = str ((s.data.toList.take j).drop fr) := str_eq (extract_td s fr j)
  have e2 : (s.data.toList.take (j + 1)).drop (j + 1) = [] := by
    rw [List.drop_eq_nil_iff, List.length_take]; omega
  rw [e, e2]

theorem SplitSo.miss {s sep : ByteArray} {j fr : Nat} {acc : List ByteArray} (h : SplitSo s sep j fr acc) (hj : j < s.data.toList.length) (hc : sep.data.toList.contains (s.data.toList.getD j 0) = false) :
    SplitSo s sep (j + 1) fr acc := by
  refine ⟨by have := h.le; omega, ?_, by have := h.len; omega⟩
  rw [← h.all, drop_consB _ j hj, splitA, hc, take_snocB _ j hj, List.drop_append_of_le_length (by rw [List.length_take]; have := h.le; omega)]
  simp

theorem SplitSo.fin {s sep : ByteArray} {fr : Nat} {acc : List ByteArray} (h : SplitSo s sep s.size fr acc) : acc ++ [s.extract fr s.size] = split s sep := by
  rw [← h.all]
  have e : s.extract fr s.size = str ((s.data.toList.take s.size).drop fr) := str_eq (extract_td s fr s.size)
  have e2 : s.data.toList.drop s.size = [] := by rw [List.drop_eq_nil_iff, size_len]; exact Nat.le_refl _
  rw [e, e2, splitA]
  rfl

set_option maxHeartbeats 4000000 in
set_option maxRecDepth 1000000 in
theorem split_calls (s sep : ByteArray) (w : World) (hl : s.size ≤ 1000000) :
    Calls Try.prog 23 #[.string s, .string sep] w fun e w' => ∃ v : Value, e = .returned v ∧ Kd.R Kd.string 9 w' w.heap.size (fun _ => True) v (split s sep) ∧ Below w.heap.size w w' := by
  have HL := Aside0.mk hl
  clear hl
  go_enter Try.func23, Try.ntmps23
  go_wp2
  go_loopg [5, 6, 10] s.size (fun f v5 v6 v10 wr => ∃ (j fr : Nat) (x y : Int) (acc : List ByteArray), v10 = .int .i64 x ∧ v6 = .int .i64 y ∧ Aside0 (x = (j : Int)) ∧ Aside0 (y = (fr : Int)) ∧ Aside0 (j + f = s.size) ∧ Aside0 (SplitSo s sep j fr acc) ∧ Aside0 (Kd.R Kd.string 9 wr w.heap.size (fun _ => True) v5 acc) ∧ Aside0 (Below w.heap.size w wr))
  case atStart => exact ⟨0, 0, 0, 0, [], rfl, rfl, ⟨rfl⟩, ⟨rfl⟩, ⟨by omega⟩, ⟨SplitSo.start s sep⟩, ⟨Kd.R_nil _ _ _ _ _⟩, ⟨Below.refl _ w⟩⟩
  case round =>
    obtain ⟨j, fr, x, y, acc, rfl, rfl, HX, HY, HJ, HS, HR, HB⟩ := hrel
    cases gk with
    | succ f =>
      have hx0 : 0 ≤ x := by rw [HX.out]; omega
      have hx1 : x < (s.size : Int) := by rw [HX.out]; have := HJ.out; omega
      have d0 : decide (x < (s.size : Int)) = true := decide_eq_true hx1
      have hjl : j < s.data.toList.length := by rw [← size_len]; have := HJ.out; omega
      have hbt : bt s x = ((s.data.toList.getD j 0).toNat : Int) := by rw [HX.out, bt_list s j (by have := HJ.out; omega)]
      have hw : wrap64 (x + 1) = ((j + 1 : Nat) : Int) := by
        rw [HX.out, w64 (by omega) (by have := HL.out; have := HJ.out; omega)]; omega
      have HW1 := Aside0.mk hw
      have hx4 := bt_at s x
      have hback : (bt s x).toNat.toUInt8 = s.data.toList.getD j 0 := by rw [hbt]; simp
      have hcon := Lib.contains_iff_indexByte sep.data.toList (s.data.toList.getD j 0)
      have hy0 : 0 ≤ y := by rw [HY.out]; omega
      have hy1 : y ≤ x := by rw [HX.out, HY.out]; have := HS.out.le; omega
      have hx2 : x ≤ (s.size : Int) := by omega
      have hi := Try.strings_IndexByte sep (bt s x)
      rw [hback] at hi
      have HI := Aside0.mk hi
      clear hi hbt hw hback
      replace hx0 := eq_true hx0
      replace hx1 := eq_true hx1
      replace hx2 := eq_true hx2
      replace hy0 := eq_true hy0
      replace hy1 := eq_true hy1
      cases hin : sep.data.toList.contains (s.data.toList.getD j 0) with
      | true =>
        rw [hin] at hcon
        have d1 : decide ((0 : Int) ≤ Lib.indexByte sep.data.toList (s.data.toList.getD j 0)) = true := hcon.symm
        have HS2 := Aside0.mk (HS.out.hit hjl hin)
        clear hcon hin hjl
        obtain ⟨q, hq⟩ : ∃ q, Lib.indexByte sep.data.toList (s.data.toList.getD j 0) = q := ⟨_, rfl⟩
        rw [hq] at d1 HI
        clear hq
        obtain ⟨p, hp⟩ : ∃ p : ByteArray, s.extract y.toNat x.toNat = p := ⟨_, rfl⟩
        have HP : Aside0 (s.extract fr j = p) := ⟨by rw [← hp, HX.out, HY.out]; simp⟩
        go_wp2_with fail
        refine (HI.out _).mono ?_
        rintro e W1 ⟨rfl, rfl⟩
        go_wp2_with (((with_reducible refine gate_builtin (b := .append) (xs := #[.tmp 19, .tmp 24]) rfl ?_); at_builtin; refine Kd.R_append Kd.string (w0 := w) w.heap.size rfl (.tmp 19) (.tmp 24) 32 9 (.string ⟨#[]⟩) 16 rfl Try.underlying32 info9 rfl (by decide) (by omega) u5 acc p [.string p] (fun _ => True) (fun _ => False) rfl rfl ?aP (fun _ hk => hk.elim) ?aF ?aO ?aB ?aS ?aL ?_; (case aP => exact rfl); (case aB => exact HB.out); (case aF => exact (fun _ _ => trivial)); (case aO => exact HR.out); (case aS => exact HB.out.size); (case aL => have := HL.out; have := HS.out.len; have := HJ.out; omega); intro v107 w5 ho hb hg hat; have HO := Aside0.mk ho; have HB5 := Aside0.mk hb; clear ho hb hg hat))
        go_roundg f
        case measure => omega
        case rel =>
          have hS := HS2.out
          rw [HP.out] at hS
          exact ⟨j + 1, j + 1, wrap64 (x + 1), wrap64 (x + 1), acc ++ [p], rfl, rfl, HW1, HW1, ⟨by have := HJ.out; omega⟩, ⟨hS⟩, HO, HB5⟩
      | false =>
        rw [hin] at hcon
        have d1 : decide ((0 : Int) ≤ Lib.indexByte sep.data.toList (s.data.toList.getD j 0)) = false := hcon.symm
        have HS2 := Aside0.mk (HS.out.miss hjl hin)
        clear hcon hin hjl
        obtain ⟨q, hq⟩ : ∃ q, Lib.indexByte sep.data.toList (s.data.toList.getD j 0) = q := ⟨_, rfl⟩
        rw [hq] at d1 HI
        clear hq
        go_wp2_with fail
        refine (HI.out _).mono ?_
        rintro e W1 ⟨rfl, rfl⟩
        go_wp2
        go_roundg f
        case measure => omega
        case rel => exact ⟨j + 1, fr, wrap64 (x + 1), y, acc, rfl, rfl, HW1, HY, ⟨by have := HJ.out; omega⟩, HS2, HR, HB⟩
    | zero =>
      have hx1 : ¬ x < (s.size : Int) := by rw [HX.out]; have := HJ.out; omega
      have d0 : decide (x < (s.size : Int)) = false := decide_eq_false hx1
      have hj : j = s.size := by have := HJ.out; omega
      have hS := HS.out
      rw [hj] at hS
      have HF := Aside0.mk hS.fin
      have hy0 : 0 ≤ y := by rw [HY.out]; omega
      have hy1 : y ≤ (s.size : Int) := by rw [HY.out]; have := hS.le; omega
      clear hS hj hx1
      replace hy0 := eq_true hy0
      replace hy1 := eq_true hy1
      obtain ⟨p, hp⟩ : ∃ p : ByteArray, s.extract y.toNat s.size = p := ⟨_, rfl⟩
      have HP : Aside0 (s.extract fr s.size = p) := ⟨by rw [← hp, HY.out]; simp⟩
      go_wp2_with (((with_reducible refine gate_builtin (b := .append) (xs := #[.tmp 29, .tmp 33]) rfl ?_); at_builtin; refine Kd.R_append Kd.string (w0 := w) w.heap.size rfl (.tmp 29) (.tmp 33) 32 9 (.string ⟨#[]⟩) 16 rfl Try.underlying32 info9 rfl (by decide) (by omega) u5 acc p [.string p] (fun _ => True) (fun _ => False) rfl rfl ?aP (fun _ hk => hk.elim) ?aF ?aO ?aB ?aS ?aL ?_; (case aP => exact rfl); (case aB => exact HB.out); (case aF => exact (fun _ _ => trivial)); (case aO => exact HR.out); (case aS => exact HB.out.size); (case aL => have := HL.out; have := HS.out.len; have := HJ.out; omega); intro v107 w5 ho hb hg hat; have HO := Aside0.mk ho; have HB5 := Aside0.mk hb; clear ho hb hg hat))
      go_ret
      have ho := HO.out
      rw [← HP.out, HF.out] at ho
      exact ⟨_, rfl, ho, HB5.out⟩
#print axioms split_calls
end Go.Proofs.Ytgmhfeldahanpaa.A
