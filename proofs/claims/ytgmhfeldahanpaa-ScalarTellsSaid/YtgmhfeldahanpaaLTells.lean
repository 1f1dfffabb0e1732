/-
  For every two texts and every number the law ScalarTells returns true: Lower, Trim, Drop, Split, Digit, Alpha and Value answer as the reference's. No condition of ours.
  (The frame of the row is the kit's shell, proof-skeleton.mjs; the walk is by hand.)
-/
import Derived.Test.YtgmhfeldahanpaaRows
import Derived.WalkKit
import Derived.ProofKit
import Derived.OpenShut
import Derived.ShutString
import Derived.Test.YtgmhfeldahanpaaAAwake
import Derived.Test.YtgmhfeldahanpaaATells
import Derived.ChangeOld
import Derived.Below
namespace Go.Proofs.Ytgmhfeldahanpaa.scalarTells
open Go.ChangeShapes Go.WideShapes Go.ChangeAt Go.RowKit
open Go.ChangeMaps (open_string shut_string)
open Go.Proofs.YtgmhfeldahanpaaW.PrintWords Go.Proofs.YtgmhfeldahanpaaW.PrintLast Go.Proofs.YtgmhfeldahanpaaW.PrintMore
open Go.Proofs.Ytgmhfeldahanpaa.A
set_option linter.unusedVariables false
set_option linter.unusedSimpArgs false

theorem own : ownKnob Try.prog.godebug = none := by kernel_rfl

set_option maxHeartbeats 4000000 in
set_option maxRecDepth 1000000 in
theorem walk_long (s sep : ByteArray) (r : Int) (w : World) (hl : 2000 < s.size) (hm : s.size ≤ 9223372036854775807) :
    Calls Try.prog 5 #[.string s, .string sep, .int .i32 r] w fun e w' => e = .returned (.bool true) ∧ Below w.heap.size w w' := by
  have d0 : decide ((2000 : Int) < (s.size : Int)) = true := decide_eq_true (by omega)
  go_enter Try.func5, Try.ntmps5
  go_wp2_with fail
  refine (awake_calls _).mono ?_
  rintro e w1 ⟨rfl, hb⟩
  go_wp2
  go_ret
  exact ⟨rfl, hb⟩

set_option maxHeartbeats 4000000 in
set_option maxRecDepth 1000000 in
theorem walk_wide (s sep : ByteArray) (r : Int) (w : World) (hl : ¬ 2000 < s.size) (hl2 : 20 < sep.size) (hm : sep.size ≤ 9223372036854775807) :
    Calls Try.prog 5 #[.string s, .string sep, .int .i32 r] w fun e w' => e = .returned (.bool true) ∧ Below w.heap.size w w' := by
  have d0 : decide ((2000 : Int) < (s.size : Int)) = false := decide_eq_false (by omega)
  have d1 : decide ((20 : Int) < (sep.size : Int)) = true := decide_eq_true (by omega)
  go_enter Try.func5, Try.ntmps5
  go_wp2_with fail
  refine (awake_calls _).mono ?_
  rintro e w1 ⟨rfl, hb⟩
  go_wp2
  go_ret
  exact ⟨rfl, hb⟩

/-- What is known behind each call: the world is as it was below. -/
theorem on_ {w w1 w2 : World} (h : Aside0 (Below w.heap.size w w1)) (k : Below w1.heap.size w1 w2) : Aside0 (Below w.heap.size w w2) := ⟨below_then h.out h.out.size k⟩

set_option maxHeartbeats 8000000 in
set_option maxRecDepth 1000000 in
theorem walk_small (s sep : ByteArray) (r : Int) (w : World) (hl : ¬ 2000 < s.size) (hl2 : ¬ 20 < sep.size) (h0 : 0 ≤ r) (h1 : r < 256) :
    Calls Try.prog 5 #[.string s, .string sep, .int .i32 r] w fun e w' => e = .returned (.bool true) ∧ Below w.heap.size w w' := by
  have d0 : decide ((2000 : Int) < (s.size : Int)) = false := decide_eq_false (by omega)
  have d1 : decide ((20 : Int) < (sep.size : Int)) = false := decide_eq_false (by omega)
  have r0 : decide ((0 : Int) ≤ r) = true := decide_eq_true h0
  have r1 : decide (r < 256) = true := decide_eq_true h1
  have HS : Aside0 (s.size ≤ 1000000) := ⟨by omega⟩
  have HA : Aside0 (sep.size ≤ 1000000) := ⟨by omega⟩
  clear hl hl2
  go_enter Try.func5, Try.ntmps5
  go_wp2_with fail
  refine (awake_calls _).mono ?_
  rintro e w1 ⟨rfl, hb⟩
  have HB := Aside0.mk hb
  clear hb
  go_wp2_with fail
  refine (lower_calls s _ HS.out).mono ?_
  rintro e w2 ⟨rfl, hb⟩
  have HB2 := on_ HB hb
  clear hb HB
  go_wp2_with fail
  obtain ⟨k, hk⟩ := ref_lower s HS.out
  refine (PScalarTells.mantrapref01_Lower.calls k s _ _ hk).mono ?_
  clear hk
  rintro e w3 ⟨rfl, hb⟩
  have HB3 := on_ HB2 hb
  clear hb HB2
  go_wp2_with fail
  refine (trim_calls s _ HS.out).mono ?_
  rintro e w4 ⟨rfl, hb⟩
  have HB4 := on_ HB3 hb
  clear hb HB3
  go_wp2_with fail
  obtain ⟨k, hk⟩ := ref_trim s HS.out
  refine (PScalarTells.mantrapref01_Trim.calls k s _ _ hk).mono ?_
  clear hk
  rintro e w5 ⟨rfl, hb⟩
  have HB5 := on_ HB4 hb.below
  clear hb HB4
  go_wp2_with fail
  refine (drop_calls s _ HS.out).mono ?_
  rintro e w6 ⟨rfl, hb⟩
  have HB6 := on_ HB5 hb
  clear hb HB5
  go_wp2_with fail
  obtain ⟨k, hk⟩ := ref_drop s HS.out
  refine (PScalarTells.mantrapref01_Drop.calls k s _ _ hk).mono ?_
  clear hk
  rintro e w7 ⟨rfl, hb⟩
  have HB7 := on_ HB6 hb
  clear hb HB6
  go_wp2_with fail
  refine (split_calls s sep _ HS.out).mono ?_
  rintro e w8 ⟨v, rfl, hr, hb⟩
  have HB8 := on_ HB7 hb
  obtain ⟨A, c, rfl, hc, hC⟩ := Kd.R_reads hr
  have HC := Aside0.mk hC
  have HC0 := Aside0.mk hc
  clear hb HB7 hr hc hC
  go_wp2_with fail
  obtain ⟨k, hk⟩ := ref_split s sep HS.out HA.out
  refine (PScalarTells.mantrapref01_Split.calls k s sep _ _ hk).mono ?_
  clear hk
  rintro e w9 ⟨v, rfl, hr, hb⟩
  have HB9 := on_ HB8 hb
  obtain ⟨A', c', rfl, hc, hC⟩ := Kd.R_reads hr
  have HC1 := Aside0.mk (Kd.C_below HC.out hb)
  have HC2 := Aside0.mk hC
  have HC3 := Aside0.mk hc
  clear hb HB8 hr hc hC HC
  go_wp2_with fail
  refine (equalS_calls A c (split s sep) A' c' w9 (by have := split_length s sep; have := HS.out; omega) HC1.out HC0.out HC2.out HC3.out).mono ?_
  rintro e w10 ⟨rfl, hb⟩
  have HB10 := on_ HB9 hb
  clear hb HB9 HC0 HC1 HC2 HC3
  go_wp2_with fail
  refine (PScalarTells.scalar_Digit.calls _ _ _ (digit_eq _)).mono ?_
  rintro e w11 ⟨rfl, hb⟩
  have HB11 := on_ HB10 hb.below
  clear hb HB10
  go_wp2_with fail
  refine (PScalarTells.mantrapref01_Digit.calls _ _ _ (digit_ref _)).mono ?_
  rintro e w12 ⟨rfl, hb⟩
  have HB12 := on_ HB11 hb.below
  clear hb HB11
  go_wp2_with fail
  refine (PScalarTells.scalar_Alpha.calls _ _ _ (alpha_eq _)).mono ?_
  rintro e w13 ⟨rfl, hb⟩
  have HB13 := on_ HB12 hb.below
  clear hb HB12
  go_wp2_with fail
  refine (PScalarTells.mantrapref01_Alpha.calls _ _ _ (alpha_ref _)).mono ?_
  rintro e w14 ⟨rfl, hb⟩
  have HB14 := on_ HB13 hb.below
  clear hb HB13
  go_wp2_with fail
  refine (PScalarTells.scalar_Value.calls 1 _ _ _ (value_eq r (by omega) (by omega))).mono ?_
  rintro e w15 ⟨rfl, hb⟩
  have HB15 := on_ HB14 hb.below
  clear hb HB14
  go_wp2_with fail
  refine (PScalarTells.mantrapref01_Value.calls 2 _ _ _ (value_ref r (by omega) (by omega))).mono ?_
  rintro e w16 ⟨rfl, hb⟩
  have HB16 := on_ HB15 hb.below
  clear hb HB15
  go_wp2
  go_ret
  exact ⟨by simp, HB16.out⟩

set_option maxHeartbeats 8000000 in
set_option maxRecDepth 1000000 in
theorem walk_neg (s sep : ByteArray) (r : Int) (w : World) (hl : ¬ 2000 < s.size) (hl2 : ¬ 20 < sep.size) (h0 : r < 0) (h1 : -2147483648 ≤ r) :
    Calls Try.prog 5 #[.string s, .string sep, .int .i32 r] w fun e w' => e = .returned (.bool true) ∧ Below w.heap.size w w' := by
  have d0 : decide ((2000 : Int) < (s.size : Int)) = false := decide_eq_false (by omega)
  have d1 : decide ((20 : Int) < (sep.size : Int)) = false := decide_eq_false (by omega)
  have r0 : decide ((0 : Int) ≤ r) = false := decide_eq_false (by omega)
  have HD : Aside0 (PScalarTells.scalar_Digit.f r = some false) := ⟨by rw [digit_eq]; congr 1; unfold isDigit; rw [decide_eq_false_iff_not]; omega⟩
  have HL : Aside0 (PScalarTells.scalar_Alpha.f r = some false) := ⟨by rw [alpha_eq]; congr 1; unfold isAlpha; rw [decide_eq_false_iff_not]; omega⟩
  have HS : Aside0 (s.size ≤ 1000000) := ⟨by omega⟩
  have HA : Aside0 (sep.size ≤ 1000000) := ⟨by omega⟩
  clear hl hl2
  go_enter Try.func5, Try.ntmps5
  go_wp2_with fail
  refine (awake_calls _).mono ?_
  rintro e w1 ⟨rfl, hb⟩
  have HB := Aside0.mk hb
  clear hb
  go_wp2_with fail
  refine (lower_calls s _ HS.out).mono ?_
  rintro e w2 ⟨rfl, hb⟩
  have HB2 := on_ HB hb
  clear hb HB
  go_wp2_with fail
  obtain ⟨k, hk⟩ := ref_lower s HS.out
  refine (PScalarTells.mantrapref01_Lower.calls k s _ _ hk).mono ?_
  clear hk
  rintro e w3 ⟨rfl, hb⟩
  have HB3 := on_ HB2 hb
  clear hb HB2
  go_wp2_with fail
  refine (trim_calls s _ HS.out).mono ?_
  rintro e w4 ⟨rfl, hb⟩
  have HB4 := on_ HB3 hb
  clear hb HB3
  go_wp2_with fail
  obtain ⟨k, hk⟩ := ref_trim s HS.out
  refine (PScalarTells.mantrapref01_Trim.calls k s _ _ hk).mono ?_
  clear hk
  rintro e w5 ⟨rfl, hb⟩
  have HB5 := on_ HB4 hb.below
  clear hb HB4
  go_wp2_with fail
  refine (drop_calls s _ HS.out).mono ?_
  rintro e w6 ⟨rfl, hb⟩
  have HB6 := on_ HB5 hb
  clear hb HB5
  go_wp2_with fail
  obtain ⟨k, hk⟩ := ref_drop s HS.out
  refine (PScalarTells.mantrapref01_Drop.calls k s _ _ hk).mono ?_
  clear hk
  rintro e w7 ⟨rfl, hb⟩
  have HB7 := on_ HB6 hb
  clear hb HB6
  go_wp2_with fail
  refine (split_calls s sep _ HS.out).mono ?_
  rintro e w8 ⟨v, rfl, hr, hb⟩
  have HB8 := on_ HB7 hb
  obtain ⟨A, c, rfl, hc, hC⟩ := Kd.R_reads hr
  have HC := Aside0.mk hC
  have HC0 := Aside0.mk hc
  clear hb HB7 hr hc hC
  go_wp2_with fail
  obtain ⟨k, hk⟩ := ref_split s sep HS.out HA.out
  refine (PScalarTells.mantrapref01_Split.calls k s sep _ _ hk).mono ?_
  clear hk
  rintro e w9 ⟨v, rfl, hr, hb⟩
  have HB9 := on_ HB8 hb
  obtain ⟨A', c', rfl, hc, hC⟩ := Kd.R_reads hr
  have HC1 := Aside0.mk (Kd.C_below HC.out hb)
  have HC2 := Aside0.mk hC
  have HC3 := Aside0.mk hc
  clear hb HB8 hr hc hC HC
  go_wp2_with fail
  refine (equalS_calls A c (split s sep) A' c' w9 (by have := split_length s sep; have := HS.out; omega) HC1.out HC0.out HC2.out HC3.out).mono ?_
  rintro e w10 ⟨rfl, hb⟩
  have HB10 := on_ HB9 hb
  clear hb HB9 HC0 HC1 HC2 HC3
  go_wp2_with fail
  refine (PScalarTells.scalar_Digit.calls r false _ HD.out).mono ?_
  rintro e w11 ⟨rfl, hb⟩
  have HB11 := on_ HB10 hb.below
  clear hb HB10
  go_wp2_with fail
  refine (PScalarTells.scalar_Alpha.calls r false _ HL.out).mono ?_
  rintro e w13 ⟨rfl, hb⟩
  have HB13 := on_ HB11 hb.below
  clear hb HB11
  go_wp2_with fail
  refine (PScalarTells.scalar_Value.calls 1 _ _ _ (value_eq r (by omega) (by omega))).mono ?_
  rintro e w15 ⟨rfl, hb⟩
  have HB15 := on_ HB13 hb.below
  clear hb HB13
  go_wp2_with fail
  refine (PScalarTells.mantrapref01_Value.calls 2 _ _ _ (value_ref r (by omega) (by omega))).mono ?_
  rintro e w16 ⟨rfl, hb⟩
  have HB16 := on_ HB15 hb.below
  clear hb HB15
  go_wp2
  go_ret
  exact ⟨by simp, HB16.out⟩

set_option maxHeartbeats 8000000 in
set_option maxRecDepth 1000000 in
theorem walk_big (s sep : ByteArray) (r : Int) (w : World) (hl : ¬ 2000 < s.size) (hl2 : ¬ 20 < sep.size) (h0 : 256 ≤ r) (h1 : r ≤ 2147483647) :
    Calls Try.prog 5 #[.string s, .string sep, .int .i32 r] w fun e w' => e = .returned (.bool true) ∧ Below w.heap.size w w' := by
  have d0 : decide ((2000 : Int) < (s.size : Int)) = false := decide_eq_false (by omega)
  have d1 : decide ((20 : Int) < (sep.size : Int)) = false := decide_eq_false (by omega)
  have r0 : decide ((0 : Int) ≤ r) = true := decide_eq_true (by omega)
  have r1 : decide (r < 256) = false := decide_eq_false (by omega)
  have HD : Aside0 (PScalarTells.scalar_Digit.f r = some false) := ⟨by rw [digit_eq]; congr 1; unfold isDigit; rw [decide_eq_false_iff_not]; omega⟩
  have HL : Aside0 (PScalarTells.scalar_Alpha.f r = some false) := ⟨by rw [alpha_eq]; congr 1; unfold isAlpha; rw [decide_eq_false_iff_not]; omega⟩
  have HS : Aside0 (s.size ≤ 1000000) := ⟨by omega⟩
  have HA : Aside0 (sep.size ≤ 1000000) := ⟨by omega⟩
  clear hl hl2
  go_enter Try.func5, Try.ntmps5
  go_wp2_with fail
  refine (awake_calls _).mono ?_
  rintro e w1 ⟨rfl, hb⟩
  have HB := Aside0.mk hb
  clear hb
  go_wp2_with fail
  refine (lower_calls s _ HS.out).mono ?_
  rintro e w2 ⟨rfl, hb⟩
  have HB2 := on_ HB hb
  clear hb HB
  go_wp2_with fail
  obtain ⟨k, hk⟩ := ref_lower s HS.out
  refine (PScalarTells.mantrapref01_Lower.calls k s _ _ hk).mono ?_
  clear hk
  rintro e w3 ⟨rfl, hb⟩
  have HB3 := on_ HB2 hb
  clear hb HB2
  go_wp2_with fail
  refine (trim_calls s _ HS.out).mono ?_
  rintro e w4 ⟨rfl, hb⟩
  have HB4 := on_ HB3 hb
  clear hb HB3
  go_wp2_with fail
  obtain ⟨k, hk⟩ := ref_trim s HS.out
  refine (PScalarTells.mantrapref01_Trim.calls k s _ _ hk).mono ?_
  clear hk
  rintro e w5 ⟨rfl, hb⟩
  have HB5 := on_ HB4 hb.below
  clear hb HB4
  go_wp2_with fail
  refine (drop_calls s _ HS.out).mono ?_
  rintro e w6 ⟨rfl, hb⟩
  have HB6 := on_ HB5 hb
  clear hb HB5
  go_wp2_with fail
  obtain ⟨k, hk⟩ := ref_drop s HS.out
  refine (PScalarTells.mantrapref01_Drop.calls k s _ _ hk).mono ?_
  clear hk
  rintro e w7 ⟨rfl, hb⟩
  have HB7 := on_ HB6 hb
  clear hb HB6
  go_wp2_with fail
  refine (split_calls s sep _ HS.out).mono ?_
  rintro e w8 ⟨v, rfl, hr, hb⟩
  have HB8 := on_ HB7 hb
  obtain ⟨A, c, rfl, hc, hC⟩ := Kd.R_reads hr
  have HC := Aside0.mk hC
  have HC0 := Aside0.mk hc
  clear hb HB7 hr hc hC
  go_wp2_with fail
  obtain ⟨k, hk⟩ := ref_split s sep HS.out HA.out
  refine (PScalarTells.mantrapref01_Split.calls k s sep _ _ hk).mono ?_
  clear hk
  rintro e w9 ⟨v, rfl, hr, hb⟩
  have HB9 := on_ HB8 hb
  obtain ⟨A', c', rfl, hc, hC⟩ := Kd.R_reads hr
  have HC1 := Aside0.mk (Kd.C_below HC.out hb)
  have HC2 := Aside0.mk hC
  have HC3 := Aside0.mk hc
  clear hb HB8 hr hc hC HC
  go_wp2_with fail
  refine (equalS_calls A c (split s sep) A' c' w9 (by have := split_length s sep; have := HS.out; omega) HC1.out HC0.out HC2.out HC3.out).mono ?_
  rintro e w10 ⟨rfl, hb⟩
  have HB10 := on_ HB9 hb
  clear hb HB9 HC0 HC1 HC2 HC3
  go_wp2_with fail
  refine (PScalarTells.scalar_Digit.calls r false _ HD.out).mono ?_
  rintro e w11 ⟨rfl, hb⟩
  have HB11 := on_ HB10 hb.below
  clear hb HB10
  go_wp2_with fail
  refine (PScalarTells.scalar_Alpha.calls r false _ HL.out).mono ?_
  rintro e w13 ⟨rfl, hb⟩
  have HB13 := on_ HB11 hb.below
  clear hb HB11
  go_wp2_with fail
  refine (PScalarTells.scalar_Value.calls 1 _ _ _ (value_eq r (by omega) (by omega))).mono ?_
  rintro e w15 ⟨rfl, hb⟩
  have HB15 := on_ HB13 hb.below
  clear hb HB13
  go_wp2_with fail
  refine (PScalarTells.mantrapref01_Value.calls 2 _ _ _ (value_ref r (by omega) (by omega))).mono ?_
  rintro e w16 ⟨rfl, hb⟩
  have HB16 := on_ HB15 hb.below
  clear hb HB15
  go_wp2
  go_ret
  exact ⟨by simp, HB16.out⟩

theorem walk (a0 : ByteArray) (a1 : ByteArray) (a2 : Int) (w0 : a0.size ≤ maxLen) (w1 : a1.size ≤ maxLen) (w2 : (Lit.int .i32 a2).wf = true) (w : World) :
    Calls Try.prog 5 #[.string a0, .string a1, .int .i32 a2] w fun e w' => e = .returned (.bool true) ∧ Below w.heap.size w w' := by
  unfold maxLen at w0 w1
  have bd := bounds_i32 w2
  by_cases h : 2000 < a0.size
  · exact walk_long a0 a1 a2 w h w0
  by_cases h2 : 20 < a1.size
  · exact walk_wide a0 a1 a2 w h h2 w1
  by_cases h3 : a2 < 0
  · exact walk_neg a0 a1 a2 w h h2 h3 bd.1
  by_cases h4 : a2 < 256
  · exact walk_small a0 a1 a2 w h h2 (by omega) h4
  · exact walk_big a0 a1 a2 w h h2 (by omega) bd.2

/-! ### The row's step (the shell's) -/
set_option maxRecDepth 100000 in
theorem lifted (os : Os) (started : os.Started) (H : Type) (enc : TypeId × Value → H) :
    ReturnsInHanded {} Try.checked os 5 .any (Rows.scalarTellsSpec.pre6 enc Try.prog Try.f5 Rows.scalarTellsRow.domain false) (Rows.scalarTellsSpec.post enc Try.prog Try.f5 false true false false) := by
  refine returnsInHanded_of_change (C := Try.checked) own started (by kernel_rfl) Try.func5
    (ChangeSpec.witness6 (enc := enc) (C := Try.checked) false ⟨#[], #[.string ByteArray.empty, .string ByteArray.empty, .int .i32 0], []⟩ 8 (by kernel_rfl) (by kernel_rfl) (by kernel_rfl) (by kernel_rfl)) ?_
  intro W base args ds gs before hval0 hW hcnd _
  have hval : ∀ (j : Nat) t v, Try.f5.params[j]? = some t → args[j]? = some v → Value.okWide Try.prog W .any base t v := hval0
  have hW' := hW
  obtain ⟨p, q, hA0, hV, rfl, hfz, hnd⟩ := hW
  have hA : DataW.TrodAll enc Try.prog W 0 (fun _ => true) true Try.f5.params.toList args.toList ds p := hA0
  rw [Try.params5] at hA hval
  obtain ⟨v0, vs0, d0, ds0, p0, q0, hargs, rfl, rfl, h0, r0⟩ := trodAll_cons hA
  obtain ⟨v1, vs1, d1, ds1, p1, q1, rfl, rfl, rfl, h1, r1⟩ := trodAll_cons r0
  obtain ⟨v2, vs2, d2, ds2, p2, q2, rfl, rfl, rfl, h2, r2⟩ := trodAll_cons r1
  obtain ⟨rfl, rfl, rfl⟩ := trodAll_nil r2
  obtain rfl : args = #[v0, v1, v2] := by cases args; simp_all
  obtain ⟨rfl, rfl⟩ := trodVars_none hV
  obtain ⟨a0, rfl, rfl, rfl, w0⟩ := open_string Try.underlying9 (hval 0 9 v0 rfl rfl) h0
  obtain ⟨a1, rfl, rfl, rfl, w1⟩ := open_string Try.underlying9 (hval 1 9 v1 rfl rfl) h1
  obtain ⟨a2, rfl, rfl, rfl, w2⟩ := open_int Try.underlying21 (hval 2 21 v2 rfl rfl) h2
  clear hA0 hval0
  refine (walk a0 a1 a2 w0 w1 w2 W).mono fun e W' ⟨he, bel⟩ => ?_
  subst he
  exact ⟨_, rfl, _, _, _, [], _, [], hW', trodAll_mk1 (shut_bool Try.underlying4 _), (trodAll_cons_mk (shut_string Try.underlying9 w0) (trodAll_cons_mk (shut_string Try.underlying9 w1) (trodAll_cons_mk (shut_int Try.underlying21 w2) trodAll_mk0))), rfl, bel.frame _, fun h => by cases h⟩

theorem over : Rows.scalarTellsRow.holds Try.pinned (OpenSpec.ofChange Rows.scalarTellsSpec) :=
  OpenClaim.holds_of_wide 5 Try.f5 rfl rfl rfl rfl rfl rfl rfl ⟨rfl, rfl, rfl, rfl, rfl⟩ rfl rfl rfl rfl rfl (by kernel_rfl) Try.func5 (by kernel_rfl)
    (of_decide_eq_true (by kernel_rfl)) (by unfold Func.isWrapper; first | (rw [if_pos (by decide +kernel)]; kernel_rfl) | (rw [if_neg (by decide +kernel)]; exact ⟨rfl, rfl⟩))
    (fun os started H enc _ => lifted os started H enc)

/-- The statement. -/
theorem proved : Rows.ScalarTellsSaid :=
  over
#print axioms proved
end Go.Proofs.Ytgmhfeldahanpaa.scalarTells
namespace Go.Proofs.Ytgmhfeldahanpaa
/-- The row, under a short name, for the claim. -/
theorem scalarTells_holds : Rows.ScalarTellsSaid := scalarTells.proved
end Go.Proofs.Ytgmhfeldahanpaa
