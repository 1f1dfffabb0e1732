/-
  The walk of the law's 'awake': the chapter's example.
-/
import Derived.Test.YtgmhfeldahanpaaAReads
namespace Go.Proofs.Ytgmhfeldahanpaa.A
open Go.RowKit Go.Proofs.YtgmhfeldahanpaaW.PrintWords Go.Proofs.YtgmhfeldahanpaaW.PrintLast Go.Proofs.YtgmhfeldahanpaaW.PrintMore
open Go.Proofs.Ytgmhfeldahanpaa.PScalarReads
set_option linter.unusedVariables false
set_option linter.unusedSimpArgs false

theorem runes_example : runes ⟨#[97, 255, 98]⟩ = [97, 65533, 98] := by decide +kernel

/-- slices.Equal of two rows that hold the same numbers. -/
theorem equal_calls (A0 : Option Addr) (c0 : Nat) (l : List Int) (A1 : Option Addr) (c1 : Nat) (w : World) (hl : l.length ≤ 1000000) (hr0 : Kd.C (Kd.int .i32) w A0 l.length l) (hc0 : l.length ≤ c0) (hr1 : Kd.C (Kd.int .i32) w A1 l.length l) (hc1 : l.length ≤ c1) :
    Calls Try.prog 9 #[.slice A0 l.length c0, .slice A1 l.length c1] w fun e w' => e = .returned (.bool true) ∧ Below w.heap.size w w' := by
  obtain ⟨k, h⟩ := equal_self l hl
  exact (slices_Equal_rune_rune.calls k A0 c0 l A1 c1 l true w hr0 hc0 hr1 hc1 h).mono fun e w' ⟨he, hd⟩ => ⟨he, hd.below⟩

/-- A fresh row of numbers reads as their list. -/
theorem C_new (w : World) (k : IntKind) (T : TypeId) (l : List Int) (hl : l.length ≤ 1000000) : Kd.C (Kd.int k) (w.alloc (.cells (l.map fun x => Value.int k x).toArray T)) (some ⟨w.heap.size, 0, none⟩) l.length l := by
  refine ⟨rfl, by omega, fun _ => ⟨_, rfl, fun j p hj => ⟨[.int k p], rfl, rfl, fun i u hu => ?_⟩⟩⟩
  have hi : i = 0 := by
    have := (List.getElem?_eq_some_iff.1 hu).1
    simpa using this
  subst hi
  have e : (⟨w.heap.size, 0, none⟩ : Addr).add (j * (Kd.int k).sz + 0) = ⟨w.heap.size, j, none⟩ := by
    show (⟨w.heap.size, 0, none⟩ : Addr).add (j * 1 + 0) = _
    rw [Nat.mul_one, Nat.add_zero, add_plain]
  rw [e, World.cell?_alloc_new, List.getElem?_toArray, List.getElem?_map, hj]
  simpa using hu

set_option maxHeartbeats 4000000 in
set_option maxRecDepth 1000000 in
theorem awake_calls (w : World) : Calls Try.prog 8 #[] w fun e w' => e = .returned (.bool true) ∧ Below w.heap.size w w' := by
  go_enter Try.func8, Try.ntmps8
  go_wp2_with fail
  refine (scalars_calls _ _ (by decide)).mono ?_
  rw [runes_example]
  rintro e w1 ⟨v, rfl, hr, hb⟩
  obtain ⟨A, c, rfl, hc, hC⟩ := Kd.R_reads hr
  go_wp2_with fail
  refine (equal_calls A c [97, 65533, 98] _ 3 _ (by decide) (Kd.C_alloc hC _) hc (C_new w1 .i32 21 [97, 65533, 98] (by decide)) (by decide)).mono ?_
  rintro e w2 ⟨rfl, hb2⟩
  go_wp2
  go_ret
  exact ⟨rfl, below_then (below_alloc hb _) (by have := hb.size; simp; omega) hb2⟩
#print axioms awake_calls
end Go.Proofs.Ytgmhfeldahanpaa.A
