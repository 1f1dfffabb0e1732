/-
  The walks of scalar.Text and scalar.Drop: a strings.Builder that is written in a loop.
-/
import Derived.Test.YtgmhfeldahanpaaAReads
import Derived.Test.YtgmhfeldahanpaaALays
import Derived.Test.YtgmhfeldahanpaaShelf
import Derived.Outline
import Derived.BigCall
namespace Go.Proofs.Ytgmhfeldahanpaa.A
open Go.RowKit Go.Proofs.YtgmhfeldahanpaaW.PrintWords Go.Proofs.YtgmhfeldahanpaaW.PrintLast Go.Proofs.YtgmhfeldahanpaaW.PrintMore
set_option linter.unusedVariables false
set_option linter.unusedSimpArgs false

theorem take_textL (l : List Int) (j : Nat) (h : j < l.length) : textL (l.take (j + 1)) = textL (l.take j) ++ Lib.encodeRune (rd l (j : Int)) := by
  rw [List.take_succ_eq_append_getElem h, textL_append]
  congr 1
  have : rd l (j : Int) = l[j] := by simp [rd, h]
  rw [this, textL_cons, textL_nil, List.append_nil]

theorem rd_mem (l : List Int) (j : Nat) (h : j < l.length) : rd l (j : Int) ∈ l := by
  have : rd l (j : Int) = l[j] := by simp [rd, h]
  rw [this]; exact List.getElem_mem h

set_option maxHeartbeats 4000000 in
set_option maxRecDepth 1000000 in
theorem text_calls (A : Option Addr) (c : Nat) (l : List Int) (w : World) (hl : l.length ≤ 1000000) (hb : ∀ x ∈ l, -2147483648 ≤ x ∧ x ≤ 2147483647) (hr : Kd.C (Kd.int .i32) w A l.length l) (hc : l.length ≤ c) :
    Calls Try.prog 14 #[.slice A l.length c] w fun e w' => e = .returned (.string (text l)) ∧ Below w.heap.size w w' := by
  have HL := Aside0.mk hl
  have HBD := Aside0.mk hb
  have HR := Aside0.mk hr
  have HC := Aside0.mk hc
  clear hl hb hr hc
  go_enter Try.func14, Try.ntmps14
  go_wp2
  go_loopg [8] l.length (fun f v8 wr => ∃ (j : Nat) (x : Int), v8 = .int .i64 x ∧ Aside0 (x = (j : Int)) ∧ Aside0 (j + f = l.length) ∧ Aside0 (Lib.IsBuilderF 47 5 w.heap.size w.heap.size (Lib.byteCells (textL (l.take j))) wr) ∧ Aside0 (Below w.heap.size w wr))
  case atStart =>
    exact ⟨0, 0, rfl, ⟨rfl⟩, ⟨by omega⟩, ⟨Lib.IsBuilderF.of (Lib.fresh_isBuilder 47 5 w)⟩, ⟨(Below.refl _ w).alloc (Nat.le_refl _) _⟩⟩
  case round =>
    obtain ⟨j, x, rfl, HX, HJ, HI, HB⟩ := hrel
    cases gk with
    | succ f =>
      have hx0 : 0 ≤ x := by rw [HX.out]; omega
      have hx1 : x < (l.length : Int) := by rw [HX.out]; have := HJ.out; omega
      have d0 : decide (x < (l.length : Int)) = true := decide_eq_true hx1
      obtain ⟨ad, e, hcell⟩ := Kd.at_int HR.out x hx0 hx1
      cases e
      replace hcell := (HB.out.cell (World.block_lt_of_cell? w _ hcell)).trans hcell
      have hm := HBD.out (rd l x) (by rw [HX.out]; exact rd_mem l j (by have := HJ.out; omega))
      have h4 : (Lib.byteCells (textL (l.take j))).length + 4 ≤ 140737488355328 := by
        rw [Lib.byteCells_length]
        have := textL_le (l.take j)
        rw [List.length_take] at this
        have := HL.out
        omega
      have W := Try.wr_k w.heap.size w.heap.size _ (rd l x) hm.1 hm.2 wr HI.out h4 HB.out.size
      clear hm h4
      have HW := Aside0.mk W
      clear W
      replace hx0 := eq_true hx0
      replace hx1 := eq_true hx1
      go_wp2_with fail
      refine HW.out.mono ?_
      rintro e W1 ⟨rfl, h1, b1, k1⟩
      have HI1 := Aside0.mk h1
      have HB1 := Aside0.mk (HB.out.trans b1)
      clear h1 b1 k1 HW
      go_wp2
      go_roundg f
      case measure => omega
      case rel =>
        refine ⟨j + 1, wrap64 (x + 1), rfl, ⟨?_⟩, ⟨by have := HJ.out; omega⟩, ⟨?_⟩, HB1⟩
        · rw [HX.out, w64 (by omega) (by have := HL.out; have := HJ.out; omega)]; omega
        · rw [take_textL l j (by have := HJ.out; omega), Lib.byteCells_append, Lib.byteCells_encodeRune, ← HX.out]
          exact Or.inr HI1.out
    | zero =>
      have hx1 : ¬ x < (l.length : Int) := by rw [HX.out]; have := HJ.out; omega
      have d0 : decide (x < (l.length : Int)) = false := decide_eq_false hx1
      have hj : j = l.length := by have := HJ.out; omega
      subst hj
      have hI := HI.out
      rw [List.take_length] at hI
      have HW := Aside0.mk (Try.Builder_String_any_k w.heap.size w.heap.size (textL l) wr hI HB.out.size)
      clear hI
      go_wp2_with fail
      refine HW.out.mono ?_
      rintro e W1 ⟨rfl, _, b1, _⟩
      go_wp2
      go_ret
      exact ⟨rfl, HB.out.trans b1⟩

/-- Without tabs and ends of lines. -/
def keepB (c : UInt8) : Bool := c != 9 && c != 10 && c != 13
def dropL (l : List UInt8) : List UInt8 := l.filter keepB
def drop (s : ByteArray) : ByteArray := ⟨(dropL s.data.toList).toArray⟩

theorem bt_list (s : ByteArray) (j : Nat) (h : j < s.size) : bt s (j : Int) = ((s.data.toList.getD j 0).toNat : Int) := by
  rw [bt_get s j h, getB]

theorem take_snocB (l : List UInt8) (j : Nat) (h : j < l.length) : l.take (j + 1) = l.take j ++ [l.getD j 0] := by
  rw [List.take_succ_eq_append_getElem h]; simp [h]

theorem dropL_keep (l : List UInt8) (j : Nat) (h : j < l.length) (hk : keepB (l.getD j 0) = true) : dropL (l.take (j + 1)) = dropL (l.take j) ++ [l.getD j 0] := by
  rw [take_snocB l j h]; simp only [dropL, List.filter_append]; rw [List.filter_cons_of_pos hk]; rfl
theorem dropL_skip (l : List UInt8) (j : Nat) (h : j < l.length) (hk : keepB (l.getD j 0) = false) : dropL (l.take (j + 1)) = dropL (l.take j) := by
  rw [take_snocB l j h]; simp only [dropL, List.filter_append]; rw [List.filter_cons_of_neg (by rw [hk]; simp)]; simp

theorem dropL_le (l : List UInt8) : (dropL l).length ≤ l.length := List.length_filter_le _ _

theorem keepB_no (c : UInt8) (h : (c.toNat : Int) = 9 ∨ (c.toNat : Int) = 10 ∨ (c.toNat : Int) = 13) : keepB c = false := by
  unfold keepB
  rcases h with h | h | h
  · obtain rfl : c = 9 := UInt8.toNat.inj (by have : (9 : UInt8).toNat = 9 := rfl; omega)
    rfl
  · obtain rfl : c = 10 := UInt8.toNat.inj (by have : (10 : UInt8).toNat = 10 := rfl; omega)
    rfl
  · obtain rfl : c = 13 := UInt8.toNat.inj (by have : (13 : UInt8).toNat = 13 := rfl; omega)
    rfl
theorem keepB_yes (c : UInt8) (h : ¬ ((c.toNat : Int) = 9 ∨ (c.toNat : Int) = 10 ∨ (c.toNat : Int) = 13)) : keepB c = true := by
  unfold keepB
  have h1 : c ≠ 9 := fun e => h (by subst e; exact .inl rfl)
  have h2 : c ≠ 10 := fun e => h (by subst e; exact .inr (.inl rfl))
  have h3 : c ≠ 13 := fun e => h (by subst e; exact .inr (.inr rfl))
  simp [h1, h2, h3]

set_option maxHeartbeats 4000000 in
set_option maxRecDepth 1000000 in
theorem drop_calls (s : ByteArray) (w : World) (hl : s.size ≤ 1000000) :
    Calls Try.prog 20 #[.string s] w fun e w' => e = .returned (.string (drop s)) ∧ Below w.heap.size w w' := by
  have HL := Aside0.mk hl
  clear hl
  go_enter Try.func20, Try.ntmps20
  go_wp2
  go_loopg [8] s.size (fun f v8 wr => ∃ (j : Nat) (x : Int), v8 = .int .i64 x ∧ Aside0 (x = (j : Int)) ∧ Aside0 (j + f = s.size) ∧ Aside0 (Lib.IsBuilderF 47 5 w.heap.size w.heap.size (Lib.byteCells (dropL (s.data.toList.take j))) wr) ∧ Aside0 (Below w.heap.size w wr))
  case atStart =>
    exact ⟨0, 0, rfl, ⟨rfl⟩, ⟨by omega⟩, ⟨Lib.IsBuilderF.of (Lib.fresh_isBuilder 47 5 w)⟩, ⟨(Below.refl _ w).alloc (Nat.le_refl _) _⟩⟩
  case round =>
    obtain ⟨j, x, rfl, HX, HJ, HI, HB⟩ := hrel
    cases gk with
    | succ f =>
      have hx0 : 0 ≤ x := by rw [HX.out]; omega
      have hx1 : x < (s.size : Int) := by rw [HX.out]; have := HJ.out; omega
      have d0 : decide (x < (s.size : Int)) = true := decide_eq_true hx1
      have hjl : j < s.data.toList.length := by rw [← size_len]; have := HJ.out; omega
      have hbt : bt s x = ((s.data.toList.getD j 0).toNat : Int) := by rw [HX.out, bt_list s j (by have := HJ.out; omega)]
      have hw : wrap64 (x + 1) = ((j + 1 : Nat) : Int) := by
        rw [HX.out, w64 (by omega) (by have := HL.out; have := HJ.out; omega)]; omega
      have HW1 := Aside0.mk hw
      have hx4 := bt_at s x
      by_cases c9 : bt s x = 9 ∨ bt s x = 10 ∨ bt s x = 13
      · have HS := Aside0.mk (dropL_skip s.data.toList j hjl (keepB_no _ (by rw [← hbt]; exact c9)))
        clear hjl hbt hw
        replace hx0 := eq_true hx0
        replace hx1 := eq_true hx1
        rcases c9 with c9 | c9 | c9
        · have c9b0 : (bt s x == 9) = true := beq_iff_eq.mpr c9
          have c9b1 : (bt s x != 9) = false := bne_eq_false_iff_eq.mpr c9
          clear c9
          go_wp2
          go_roundg f
          case measure => omega
          case rel => exact ⟨j + 1, wrap64 (x + 1), rfl, HW1, ⟨by have := HJ.out; omega⟩, ⟨by rw [HS.out]; exact HI.out⟩, HB⟩
        · have c9b0 : (bt s x == 10) = true := beq_iff_eq.mpr c9
          have c9b1 : (bt s x != 10) = false := bne_eq_false_iff_eq.mpr c9
          have c9b2 : (bt s x != 9) = true := bne_iff_ne.mpr (by omega)
          clear c9
          go_wp2
          go_roundg f
          case measure => omega
          case rel => exact ⟨j + 1, wrap64 (x + 1), rfl, HW1, ⟨by have := HJ.out; omega⟩, ⟨by rw [HS.out]; exact HI.out⟩, HB⟩
        · have c9b0 : (bt s x == 13) = true := beq_iff_eq.mpr c9
          have c9b1 : (bt s x != 13) = false := bne_eq_false_iff_eq.mpr c9
          have c9b2 : (bt s x != 9) = true := bne_iff_ne.mpr (by omega)
          have c9b3 : (bt s x != 10) = true := bne_iff_ne.mpr (by omega)
          clear c9
          go_wp2
          go_roundg f
          case measure => omega
          case rel => exact ⟨j + 1, wrap64 (x + 1), rfl, HW1, ⟨by have := HJ.out; omega⟩, ⟨by rw [HS.out]; exact HI.out⟩, HB⟩
      · have HS := Aside0.mk (dropL_keep s.data.toList j hjl (keepB_yes _ (by rw [← hbt]; exact c9)))
        have HV : Aside0 (Value.int .u8 (bt s x) = Value.int .u8 ((s.data.toList.getD j 0).toNat : Int)) := ⟨by rw [hbt]⟩
        clear hjl hbt hw
        replace hx0 := eq_true hx0
        replace hx1 := eq_true hx1
        have c1 : (bt s x != 9) = true := bne_iff_ne.mpr (by omega)
        have c2 : (bt s x != 10) = true := bne_iff_ne.mpr (by omega)
        have c3 : (bt s x != 13) = true := bne_iff_ne.mpr (by omega)
        clear c9
        have HW := Aside0.mk (Try.wb_k w.heap.size w.heap.size _ (bt s x) wr HI.out (by rw [Lib.byteCells_length]; have := dropL_le (s.data.toList.take j); rw [List.length_take] at this; have := HL.out; have := HJ.out; omega) HB.out.size)
        go_wp2_with fail
        refine HW.out.mono ?_
        rintro e W1 ⟨rfl, h1, b1, k1⟩
        have HI1 := Aside0.mk h1
        have HB1 := Aside0.mk (HB.out.trans b1)
        clear h1 b1 k1 HW
        go_wp2
        go_roundg f
        case measure => omega
        case rel =>
          refine ⟨j + 1, wrap64 (x + 1), rfl, HW1, ⟨by have := HJ.out; omega⟩, ⟨?_⟩, HB1⟩
          have h := HI1.out
          rw [HV.out] at h
          rw [HS.out, Lib.byteCells_append]
          exact Or.inr h
    | zero =>
      have hx1 : ¬ x < (s.size : Int) := by rw [HX.out]; have := HJ.out; omega
      have d0 : decide (x < (s.size : Int)) = false := decide_eq_false hx1
      have hI := HI.out
      rw [List.take_of_length_le (by rw [← size_len]; have := HJ.out; omega)] at hI
      have HW := Aside0.mk (Try.Builder_String_any_k w.heap.size w.heap.size (dropL s.data.toList) wr hI HB.out.size)
      clear hI
      go_wp2_with fail
      refine HW.out.mono ?_
      rintro e W1 ⟨rfl, _, b1, _⟩
      go_wp2
      go_ret
      exact ⟨rfl, HB.out.trans b1⟩
#print axioms text_calls
#print axioms drop_calls
end Go.Proofs.Ytgmhfeldahanpaa.A
