/-
  For every text the law ScalarReads returns true: scalar.Scalars and the reference's Scalars are equal, scalar.Plain and the reference's Plain agree. No condition of ours.
  (The frame of the row is the kit's shell, proof-skeleton.mjs, with 'Below' for its 'Grown'.)
-/
import Derived.Test.YtgmhfeldahanpaaRows
import Derived.Test.YtgmhfeldahanpaaAAwake
import Derived.WalkKit
import Derived.ProofKit
import Derived.OpenShut
import Derived.ShutString
import Derived.ChangeOld
import Derived.Below
namespace Go.Proofs.Ytgmhfeldahanpaa.scalarReads
open Go.ChangeShapes Go.WideShapes Go.ChangeAt Go.RowKit
open Go.ChangeMaps (open_string shut_string)
open Go.Proofs.YtgmhfeldahanpaaW.PrintWords Go.Proofs.YtgmhfeldahanpaaW.PrintLast Go.Proofs.YtgmhfeldahanpaaW.PrintMore
open Go.Proofs.Ytgmhfeldahanpaa.PScalarReads Go.Proofs.Ytgmhfeldahanpaa.A
set_option linter.unusedVariables false

theorem own : ownKnob Try.prog.godebug = none := by kernel_rfl

set_option maxHeartbeats 4000000 in
set_option maxRecDepth 1000000 in
theorem walk_long (s : ByteArray) (hs : 4000 < s.size) (hm : s.size ≤ 9223372036854775807) (w : World) :
    Calls Try.prog 3 #[.string s] w fun e w' => e = .returned (.bool true) ∧ Below w.heap.size w w' := by
  go_enter Try.func3, Try.ntmps3
  go_wp2_with (go_at_call 8; refine (awake_calls _).mono ?_; rintro e w1 ⟨rfl, hb⟩)
  go_ret
  exact ⟨rfl, hb⟩

set_option maxHeartbeats 4000000 in
set_option maxRecDepth 1000000 in
theorem walk_short (s : ByteArray) (hs : ¬ 4000 < s.size) (w : World) :
    Calls Try.prog 3 #[.string s] w fun e w' => e = .returned (.bool true) ∧ Below w.heap.size w w' := by
  go_enter Try.func3, Try.ntmps3
  go_wp2_with fail
  refine (awake_calls _).mono ?_
  rintro e w1 ⟨rfl, hb⟩
  go_wp2_with fail
  refine (scalars_calls s _ (by omega)).mono ?_
  rintro e w2 ⟨v, rfl, hr, hb2⟩
  obtain ⟨A, c, rfl, hc, hC⟩ := Kd.R_reads hr
  have HC := Aside0.mk hC
  have HB2 := Aside0.mk (below_then hb hb.size hb2)
  have HC0 := Aside0.mk hc
  clear hr hC hb2 hb hc
  obtain ⟨k, hk⟩ := ref_scalars s (by omega)
  go_wp2_with fail
  refine (mantrapref01_Scalars.calls k s _ _ hk).mono ?_
  rintro e w3 ⟨v, rfl, hr, hb3⟩
  obtain ⟨A', c', rfl, hc', hC'⟩ := Kd.R_reads hr
  have HC1 := Aside0.mk (Kd.C_below HC.out hb3)
  have HC2 := Aside0.mk hC'
  have HB3 := Aside0.mk (below_then HB2.out HB2.out.size hb3)
  have HC3 := Aside0.mk hc'
  have HL := Aside0.mk (runes_length s)
  clear hr hC' hb3 hc' HC HB2 hk
  go_wp2_with fail
  refine (equal_calls A c (runes s) A' c' w3 (by have := HL.out; omega) HC1.out HC0.out HC2.out HC3.out).mono ?_
  rintro e w4 ⟨rfl, hb4⟩
  have HB4 := Aside0.mk (below_then HB3.out HB3.out.size hb4)
  clear hb4 HB3 HC1 HC2 HC3 HC0
  go_wp2_with fail
  refine (plain_calls s _ (by omega)).mono ?_
  rintro e w5 ⟨rfl, hb5⟩
  have HB5 := Aside0.mk (below_then HB4.out HB4.out.size hb5)
  clear hb5 HB4
  obtain ⟨k, hk⟩ := ref_plain s (by omega)
  go_wp2_with fail
  refine (mantrapref01_Plain.calls k s _ _ hk).mono ?_
  rintro e w6 ⟨rfl, hd⟩
  have HB6 := Aside0.mk (below_then HB5.out HB5.out.size hd.below)
  clear hk hd HB5
  go_wp2
  go_ret
  exact ⟨by simp, HB6.out⟩

theorem walk (s : ByteArray) (hs : s.size ≤ 9223372036854775807) (w : World) :
    Calls Try.prog 3 #[.string s] w fun e w' => e = .returned (.bool true) ∧ Below w.heap.size w w' := by
  by_cases h : 4000 < s.size
  · exact walk_long s h hs w
  · exact walk_short s h w

/-! ### THE ROW's STEP (the shell's) -/
set_option maxRecDepth 100000 in
theorem lifted (os : Os) (started : os.Started) (H : Type) (enc : TypeId × Value → H) :
    ReturnsInHanded {} Try.checked os 3 .any (Rows.scalarReadsSpec.pre6 enc Try.prog Try.f3 Rows.scalarReadsRow.domain false) (Rows.scalarReadsSpec.post enc Try.prog Try.f3 false true false false) := by
  refine returnsInHanded_of_change (C := Try.checked) own started (by kernel_rfl) Try.func3
    (ChangeSpec.witness6 (enc := enc) (C := Try.checked) false ⟨#[], #[.string ByteArray.empty], []⟩ 8 (by kernel_rfl) (by kernel_rfl) (by kernel_rfl) (by kernel_rfl)) ?_
  intro W base args ds gs before hval0 hW hcnd _
  have hval : ∀ (j : Nat) t v, Try.f3.params[j]? = some t → args[j]? = some v → Value.okWide Try.prog W .any base t v := hval0
  have hW' := hW
  obtain ⟨p, q, hA0, hV, rfl, hfz, hnd⟩ := hW
  have hA : DataW.TrodAll enc Try.prog W 0 (fun _ => true) true Try.f3.params.toList args.toList ds p := hA0
  rw [Try.params3] at hA hval
  obtain ⟨v0, vs0, d0, ds0, p0, q0, hargs, rfl, rfl, h0, r0⟩ := trodAll_cons hA
  obtain ⟨rfl, rfl, rfl⟩ := trodAll_nil r0
  obtain rfl : args = #[v0] := by cases args; simp_all
  obtain ⟨rfl, rfl⟩ := trodVars_none hV
  obtain ⟨a0, rfl, rfl, rfl, w0⟩ := open_string Try.underlying9 (hval 0 9 v0 rfl rfl) h0
  clear hA0 hval0
  refine (walk a0 (by unfold maxLen at w0; exact w0) W).mono fun e W' ⟨he, bel⟩ => ?_
  subst he
  exact ⟨_, rfl, _, _, _, [], _, [], hW', trodAll_mk1 (shut_bool Try.underlying4 _), (trodAll_cons_mk (shut_string Try.underlying9 w0) trodAll_mk0), rfl, bel.frame _, fun h => by cases h⟩

theorem over : Rows.scalarReadsRow.holds Try.pinned (OpenSpec.ofChange Rows.scalarReadsSpec) :=
  OpenClaim.holds_of_wide 3 Try.f3 rfl rfl rfl rfl rfl rfl rfl ⟨rfl, rfl, rfl, rfl, rfl⟩ rfl rfl rfl rfl rfl (by kernel_rfl) Try.func3 (by kernel_rfl)
    (of_decide_eq_true (by kernel_rfl)) (by unfold Func.isWrapper; first | (rw [if_pos (by decide +kernel)]; kernel_rfl) | (rw [if_neg (by decide +kernel)]; exact ⟨rfl, rfl⟩))
    (fun os started H enc _ => lifted os started H enc)

/-- THE STATEMENT. -/
theorem proved : Rows.ScalarReadsSaid := over
#print axioms proved
end Go.Proofs.Ytgmhfeldahanpaa.scalarReads
namespace Go.Proofs.Ytgmhfeldahanpaa
/-- The row, under a short name, for the claim. -/
theorem scalarReads_holds : Rows.ScalarReadsSaid := scalarReads.proved
end Go.Proofs.Ytgmhfeldahanpaa
