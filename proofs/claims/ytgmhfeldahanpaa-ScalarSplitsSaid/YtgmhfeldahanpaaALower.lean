/-
  The walk of scalar.Lower: the bytes of a text in an array of its own, written in place, read back.
-/
import Derived.Test.YtgmhfeldahanpaaAText
import Derived.Lib.ConvBytes
namespace Go.Proofs.Ytgmhfeldahanpaa.A
open Go.RowKit Go.Proofs.YtgmhfeldahanpaaW.PrintWords Go.Proofs.YtgmhfeldahanpaaW.PrintLast Go.Proofs.YtgmhfeldahanpaaW.PrintMore
set_option linter.unusedVariables false
set_option linter.unusedSimpArgs false

def lowB (c : UInt8) : UInt8 := if 65 ≤ c.toNat ∧ c.toNat ≤ 90 then c + 32 else c
def lower (s : ByteArray) : ByteArray := ⟨(s.data.toList.map lowB).toArray⟩

theorem lowB_up (c : UInt8) (h : 65 ≤ c.toNat ∧ c.toNat ≤ 90) : (lowB c).toNat = c.toNat + 32 := by
  unfold lowB
  rw [if_pos h, UInt8.toNat_add]
  have : (32 : UInt8).toNat = 32 := rfl
  omega
theorem lowB_id (c : UInt8) (h : ¬ (65 ≤ c.toNat ∧ c.toNat ≤ 90)) : lowB c = c := if_neg h

/-- What the array holds behind j rounds. -/
def lowZs (l : List UInt8) (j : Nat) : List Int := (l.take j).map (fun c => ((lowB c).toNat : Int)) ++ (l.drop j).map (fun c => (c.toNat : Int))

theorem lowZs_length (l : List UInt8) (j : Nat) : (lowZs l j).length = l.length := by
  simp only [lowZs, List.length_append, List.length_map, List.length_take, List.length_drop]; omega
theorem lowZs_zero (l : List UInt8) : lowZs l 0 = l.map (fun c => (c.toNat : Int)) := by simp [lowZs]
theorem lowZs_all (l : List UInt8) : lowZs l l.length = (l.map lowB).map (fun c => (c.toNat : Int)) := by simp [lowZs]
theorem lowZs_at (l : List UInt8) (j : Nat) (h : j < l.length) : (lowZs l j).getD j 0 = ((l.getD j 0).toNat : Int) := by
  rw [List.getD_eq_getElem?_getD, lowZs, List.getElem?_append_right (by rw [List.length_map, List.length_take]; omega)]
  rw [List.length_map, List.length_take, Nat.min_eq_left (by omega), Nat.sub_self, List.getElem?_map, List.getElem?_drop, Nat.add_zero, List.getElem?_eq_getElem h, List.getD_eq_getElem?_getD, List.getElem?_eq_getElem h]
  rfl
theorem lowZs_set (l : List UInt8) (j : Nat) (h : j < l.length) : (lowZs l j).set j ((lowB (l.getD j 0)).toNat : Int) = lowZs l (j + 1) := by
  have e1 : l.take (j + 1) = l.take j ++ [l.getD j 0] := take_snocB l j h
  have e2 : l.drop j = l.getD j 0 :: l.drop (j + 1) := by
    rw [List.drop_eq_getElem_cons h]; simp [h]
  unfold lowZs
  rw [e1, e2, List.map_append, List.map_cons, List.set_append_right _ _ (by rw [List.length_map, List.length_take]; omega)]
  rw [List.length_map, List.length_take, Nat.min_eq_left (by omega), Nat.sub_self]
  simp
theorem lowZs_same (l : List UInt8) (j : Nat) (h : j < l.length) (hs : ¬ (65 ≤ (l.getD j 0).toNat ∧ (l.getD j 0).toNat ≤ 90)) : lowZs l (j + 1) = lowZs l j := by
  rw [← lowZs_set l j h, lowB_id _ hs]
  apply List.ext_getElem?
  intro i
  rw [List.getElem?_set]
  by_cases e : j = i
  · subst e
    rw [if_pos rfl, if_pos (by rw [lowZs_length]; exact h)]
    have := lowZs_at l j h
    rw [List.getD_eq_getElem?_getD] at this
    rw [List.getElem?_eq_getElem (by rw [lowZs_length]; exact h)] at this ⊢
    rw [Option.getD_some] at this
    rw [this]
  · rw [if_neg e]

/-- An array of bytes that the conversion has made: its cells hold zs (and what is behind). -/
def LowRow (wr : World) (B : Nat) (zs : List Int) : Prop :=
  ∃ cur : Array Value, wr.heap[B]? = some (.cells cur 5 (cur.size, cur.size + 1)) ∧ zs.length ≤ cur.size ∧ ∀ i, i < zs.length → cur[i]? = some (.int .u8 (zs.getD i 0))

theorem LowRow.cell {wr : World} {B : Nat} {zs : List Int} (h : LowRow wr B zs) (i : Nat) (hi : i < zs.length) : wr.cell? ⟨B, i, none⟩ = some (.int .u8 (zs.getD i 0)) := by
  obtain ⟨cur, hb, _, hc⟩ := h
  rw [World.cell?, hb]
  simpa using hc i hi
theorem LowRow.free {wr : World} {B : Nat} {zs : List Int} (h : LowRow wr B zs) (i : Nat) (hi : i < zs.length) : wr.frozen? ⟨B, i, none⟩ = false := by
  obtain ⟨cur, hb, hl, _⟩ := h
  rw [World.frozen?, hb]
  simp; omega
theorem LowRow.put {wr : World} {B : Nat} {zs : List Int} (h : LowRow wr B zs) (i : Nat) (v : Int) : LowRow (wr.setCell ⟨B, i, none⟩ (.int .u8 v)) B (zs.set i v) := by
  obtain ⟨cur, hb, hl, hc⟩ := h
  refine ⟨cur.setIfInBounds i (.int .u8 v), ?_, by rw [List.length_set, Array.size_setIfInBounds]; exact hl, ?_⟩
  · have hlt : B < wr.heap.size := (Array.getElem?_eq_some_iff.1 hb).1
    simp only [World.setCell, Array.getElem?_modify]
    rw [if_pos trivial, hb]
    simp
  · intro k hk
    rw [List.length_set] at hk
    rw [List.getD_eq_getElem?_getD, List.getElem?_set, Array.getElem?_setIfInBounds]
    by_cases e : i = k
    · subst e
      rw [if_pos rfl, if_pos rfl, if_pos (by omega), if_pos hk]
      rfl
    · rw [if_neg e, if_neg e, hc k hk, List.getD_eq_getElem?_getD]
theorem LowRow.made (w : World) (s : ByteArray) : LowRow (Lib.bytesWorld w 5 s) w.heap.size (lowZs s.data.toList 0) := by
  refine ⟨Lib.bytesCells w 5 s, Lib.bytesWorld_at_new w 5 s, ?_, ?_⟩
  · rw [lowZs_length, ← size_len]
    unfold Lib.bytesCells
    rw [Array.size_append, Array.size_map]
    exact Nat.le_add_right _ _
  · intro i hi
    rw [lowZs_length, ← size_len] at hi
    have := Lib.bytesWorld_cell w 5 s i hi
    rw [World.cell?, Lib.bytesWorld_at_new] at this
    have e : (lowZs s.data.toList 0).getD i 0 = ((s.data.toList.getD i 0).toNat : Int) := by
      rw [lowZs_zero, List.getD_eq_getElem?_getD, List.getElem?_map, List.getD_eq_getElem?_getD, List.getElem?_eq_getElem (by rw [← size_len]; exact hi)]
      rfl
    rw [e]
    simpa using this

theorem below_bytes (w : World) (s : ByteArray) : Below w.heap.size w (Lib.bytesWorld w 5 s) := by
  have e : Lib.bytesWorld w 5 s = (w.drew.alloc (.cells (Lib.bytesCells w 5 s) 5)).freeze ⟨w.heap.size, (Lib.bytesCells w 5 s).size, none⟩ 1 := rfl
  refine ⟨?_, ?_, ?_, by rw [Lib.bytesWorld_size]; omega, fun k hk => Lib.bytesWorld_at_old w 5 s k hk⟩
  all_goals (rw [e, World.freeze, if_neg (by omega)]; rfl)

set_option maxHeartbeats 4000000 in
set_option maxRecDepth 1000000 in
theorem lower_calls (s : ByteArray) (w : World) (hl : s.size ≤ 1000000) :
    Calls Try.prog 16 #[.string s] w fun e w' => e = .returned (.string (lower s)) ∧ Below w.heap.size w w' := by
  have HL := Aside0.mk hl
  clear hl
  have hcv := Lib.run_convert_string_bytes (P := Try.prog) w 9 45 5 s Try.underlying9 Try.underlying45 Try.underlying5
  obtain ⟨cap, hcap⟩ : ∃ cap, grownCap w s.size 0 5 = cap := ⟨_, rfl⟩
  rw [hcap] at hcv
  clear hcap
  have HR0 := Aside0.mk (LowRow.made w s)
  have HB0 := Aside0.mk (below_bytes w s)
  obtain ⟨w1, hw1⟩ : ∃ w1, Lib.bytesWorld w 5 s = w1 := ⟨_, rfl⟩
  rw [hw1] at hcv HR0 HB0
  clear hw1
  go_enter Try.func16, Try.ntmps16
  go_wp2
  go_loopg [10] s.size (fun f v10 wr => ∃ (j : Nat) (x : Int), v10 = .int .i64 x ∧ Aside0 (x = (j : Int)) ∧ Aside0 (j + f = s.size) ∧ Aside0 (LowRow wr w.heap.size (lowZs s.data.toList j)) ∧ Aside0 (Below w.heap.size w wr))
  case atStart => exact ⟨0, 0, rfl, ⟨rfl⟩, ⟨by omega⟩, HR0, HB0⟩
  case round =>
    obtain ⟨j, x, rfl, HX, HJ, HR, HB⟩ := hrel
    cases gk with
    | succ f =>
      have hx0 : 0 ≤ x := by rw [HX.out]; omega
      have hx1 : x < (s.size : Int) := by rw [HX.out]; have := HJ.out; omega
      have d0 : decide (x < (s.size : Int)) = true := decide_eq_true hx1
      have hjl : j < s.data.toList.length := by rw [← size_len]; have := HJ.out; omega
      obtain ⟨c, hc⟩ : ∃ c : UInt8, s.data.toList.getD j 0 = c := ⟨_, rfl⟩
      have hn : x.toNat = j := by rw [HX.out]; omega
      have hcell : wr.cell? ⟨w.heap.size, x.toNat, none⟩ = some (.int .u8 (c.toNat : Int)) := by
        rw [hn, HR.out.cell j (by rw [lowZs_length]; exact hjl), lowZs_at _ _ hjl, hc]
      have hfree : wr.frozen? ⟨w.heap.size, x.toNat, none⟩ = false := by
        rw [hn]; exact HR.out.free j (by rw [lowZs_length]; exact hjl)
      have hw : wrap64 (x + 1) = ((j + 1 : Nat) : Int) := by
        rw [HX.out, w64 (by omega) (by have := HL.out; have := HJ.out; omega)]; omega
      have HW1 := Aside0.mk hw
      have hc256 := c.toNat_lt
      by_cases cu : 65 ≤ c.toNat ∧ c.toNat ≤ 90
      · have HS : Aside0 (LowRow (wr.setCell ⟨w.heap.size, x.toNat, none⟩ (.int .u8 ((c.toNat : Int) + 32))) w.heap.size (lowZs s.data.toList (j + 1))) := ⟨by
          have := HR.out.put j ((lowB c).toNat : Int)
          rw [← hc, lowZs_set _ _ hjl, hc, lowB_up c cu] at this
          rw [hn]
          exact this⟩
        have HB2 := Aside0.mk (HB.out.setCell (p := ⟨w.heap.size, x.toNat, none⟩) (Nat.le_refl _) (.int .u8 ((c.toNat : Int) + 32)))
        have d1 : decide ((65 : Int) ≤ (c.toNat : Int)) = true := decide_eq_true (by omega)
        have d2 : decide ((c.toNat : Int) ≤ 90) = true := decide_eq_true (by omega)
        have b1 : (c.toNat : Int) ≤ 90 := by omega
        clear hc hw cu hn hjl
        go_wp2
        go_roundg f
        case measure => omega
        case rel => exact ⟨j + 1, wrap64 (x + 1), rfl, HW1, ⟨by have := HJ.out; omega⟩, HS, HB2⟩
      · have HS : Aside0 (LowRow wr w.heap.size (lowZs s.data.toList (j + 1))) := ⟨by
          rw [lowZs_same _ _ hjl (by rw [hc]; exact cu)]; exact HR.out⟩
        clear hc hw hn hjl
        by_cases c1 : 65 ≤ c.toNat
        · have d1 : decide ((65 : Int) ≤ (c.toNat : Int)) = true := decide_eq_true (by omega)
          have d2 : decide ((c.toNat : Int) ≤ 90) = false := decide_eq_false (by omega)
          clear cu c1
          go_wp2
          go_roundg f
          case measure => omega
          case rel => exact ⟨j + 1, wrap64 (x + 1), rfl, HW1, ⟨by have := HJ.out; omega⟩, HS, HB⟩
        · have d1 : decide ((65 : Int) ≤ (c.toNat : Int)) = false := decide_eq_false (by omega)
          clear cu c1
          go_wp2
          go_roundg f
          case measure => omega
          case rel => exact ⟨j + 1, wrap64 (x + 1), rfl, HW1, ⟨by have := HJ.out; omega⟩, HS, HB⟩
    | zero =>
      have hx1 : ¬ x < (s.size : Int) := by rw [HX.out]; have := HJ.out; omega
      have d0 : decide (x < (s.size : Int)) = false := decide_eq_false hx1
      have hj : j = s.data.toList.length := by rw [← size_len]; have := HJ.out; omega
      subst hj
      have hback := run_convert_bytes_arg (P := Try.prog) wr 45 5 Try.underlying45 Try.underlying5 w.heap.size 0 s.size cap (lowZs s.data.toList s.data.toList.length) (by rw [lowZs_length, ← size_len]) (fun i hi => by
        rw [Nat.zero_add]; exact HR.out.cell i (by rw [lowZs_length, ← size_len]; exact hi)) 9 Try.underlying9
      have e : strOfNums (lowZs s.data.toList s.data.toList.length) = lower s := by
        apply ByteArray.ext
        apply Array.ext'
        rw [strOfNums_data, lowZs_all]
        simp [lower]
      rw [e] at hback
      clear e hcv
      go_wp2
      go_ret
      exact ⟨rfl, HB.out⟩
#print axioms lower_calls
end Go.Proofs.Ytgmhfeldahanpaa.A
