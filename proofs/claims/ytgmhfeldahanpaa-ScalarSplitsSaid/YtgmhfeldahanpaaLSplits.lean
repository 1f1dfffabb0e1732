/-
  For every two texts the law ScalarSplits returns true: Split gives one part more than there are bytes at which it splits, the parts and those bytes are as long as the text, no such byte is in a part; what is trimmed and dropped has none of the three bytes, and dropped again is the same. No condition of ours.
  (The frame of the row is the kit's shell, proof-skeleton.mjs; the walk is by hand.)
-/
import Derived.Test.YtgmhfeldahanpaaRows
import Derived.WalkKit
import Derived.ProofKit
import Derived.OpenShut
import Derived.ShutString
import Derived.Test.YtgmhfeldahanpaaAAwake
import Derived.Test.YtgmhfeldahanpaaABack
import Derived.Test.YtgmhfeldahanpaaASplits
import Derived.Deep.LoopGhost
import Derived.ChangeOld
import Derived.Below
namespace Go.Proofs.Ytgmhfeldahanpaa.scalarSplits
open Go.ChangeShapes Go.WideShapes Go.ChangeAt Go.RowKit
open Go.ChangeMaps (open_string shut_string)
open Go.Proofs.YtgmhfeldahanpaaW.PrintWords Go.Proofs.YtgmhfeldahanpaaW.PrintLast Go.Proofs.YtgmhfeldahanpaaW.PrintMore
open Go.Proofs.Ytgmhfeldahanpaa.A
set_option linter.unusedVariables false
set_option linter.unusedSimpArgs false

theorem own : ownKnob Try.prog.godebug = none := by kernel_rfl

set_option maxHeartbeats 4000000 in
set_option maxRecDepth 1000000 in
theorem walk_long (s sep : ByteArray) (w : World) (hl : 2000 < s.size) (hm : s.size ≤ 9223372036854775807) :
    Calls Try.prog 7 #[.string s, .string sep] w fun e w' => e = .returned (.bool true) ∧ Below w.heap.size w w' := by
  have d0 : decide ((2000 : Int) < (s.size : Int)) = true := decide_eq_true (by omega)
  go_enter Try.func7, Try.ntmps7
  go_wp2_with fail
  refine (awake_calls _).mono ?_
  rintro e w1 ⟨rfl, hb⟩
  go_wp2
  go_ret
  exact ⟨rfl, hb⟩

set_option maxHeartbeats 4000000 in
set_option maxRecDepth 1000000 in
theorem walk_wide (s sep : ByteArray) (w : World) (hl : ¬ 2000 < s.size) (hl2 : 20 < sep.size) (hm : sep.size ≤ 9223372036854775807) :
    Calls Try.prog 7 #[.string s, .string sep] w fun e w' => e = .returned (.bool true) ∧ Below w.heap.size w w' := by
  have d0 : decide ((2000 : Int) < (s.size : Int)) = false := decide_eq_false (by omega)
  have d1 : decide ((20 : Int) < (sep.size : Int)) = true := decide_eq_true (by omega)
  go_enter Try.func7, Try.ntmps7
  go_wp2_with fail
  refine (awake_calls _).mono ?_
  rintro e w1 ⟨rfl, hb⟩
  go_wp2
  go_ret
  exact ⟨rfl, hb⟩

/-- What is known behind each call: the world is as it was below. -/
theorem on_ {w w1 w2 : World} (h : Aside0 (Below w.heap.size w w1)) (k : Below w1.heap.size w1 w2) : Aside0 (Below w.heap.size w w2) := ⟨below_then h.out h.out.size k⟩

set_option maxHeartbeats 16000000 in
set_option maxRecDepth 1000000 in
theorem walk_short (s sep : ByteArray) (w : World) (hl : ¬ 2000 < s.size) (hl2 : ¬ 20 < sep.size) :
    Calls Try.prog 7 #[.string s, .string sep] w fun e w' => e = .returned (.bool true) ∧ Below w.heap.size w w' := by
  have d0 : decide ((2000 : Int) < (s.size : Int)) = false := decide_eq_false (by omega)
  have d1 : decide ((20 : Int) < (sep.size : Int)) = false := decide_eq_false (by omega)
  have HS : Aside0 (s.size ≤ 2000) := ⟨by omega⟩
  clear hl hl2
  go_enter Try.func7, Try.ntmps7
  go_wp2_with fail
  refine (awake_calls _).mono ?_
  rintro e w1 ⟨rfl, hb⟩
  have HB := Aside0.mk hb
  clear hb
  go_wp2
  go_loopg [5, 25] s.size (fun f v5 v25 wr => ∃ (j : Nat) (x y : Int), v25 = .int .i64 x ∧ v5 = .int .i64 y ∧ Aside0 (x = (j : Int)) ∧ Aside0 (j + f = s.size) ∧ Aside0 (y = ((1 + cnt sep.data.toList (s.data.toList.take j) : Nat) : Int)) ∧ Aside0 (Below w.heap.size w wr))
  case atStart => exact ⟨0, 0, 1, rfl, rfl, ⟨rfl⟩, ⟨by omega⟩, ⟨by simp [cnt]⟩, HB⟩
  case round =>
    clear HB
    obtain ⟨j, x, y, rfl, rfl, HX, HJ, HY, HB⟩ := hrel
    cases gk with
    | succ f =>
      have hx0 : 0 ≤ x := by rw [HX.out]; omega
      have hx1 : x < (s.size : Int) := by rw [HX.out]; have := HJ.out; omega
      have d2 : decide (x < (s.size : Int)) = true := decide_eq_true hx1
      have hjl : j < s.data.toList.length := by rw [← size_len]; have := HJ.out; omega
      have HW1 : Aside0 (wrap64 (x + 1) = ((j + 1 : Nat) : Int)) := ⟨by rw [HX.out, A.w64 (by omega) (by have := HS.out; have := HJ.out; omega)]; omega⟩
      have hcl := cnt_le sep.data.toList (s.data.toList.take j)
      rw [List.length_take] at hcl
      have HW2 : Aside0 (wrap64 (y + 1) = y + 1) := ⟨A.w64 (by rw [HY.out]; omega) (by rw [HY.out]; have := HS.out; have := HJ.out; omega)⟩
      have hx4 := bt_at s x
      cases hin : sep.data.toList.contains (s.data.toList.getD j 0) with
      | true =>
        obtain ⟨q, hq, hi⟩ := ib_calls sep s j (by have := HJ.out; omega) true hin
        have HC := Aside0.mk (cnt_hit _ _ _ hjl hin)
        rw [← HX.out] at hi
        have HI := Aside0.mk hi
        clear hi hin hjl hcl
        replace hx0 := eq_true hx0
        replace hx1 := eq_true hx1
        go_wp2_with fail
        refine (HI.out _).mono ?_
        rintro e W1 ⟨rfl, rfl⟩
        go_wp2
        go_roundg f
        case measure => omega
        case rel => exact ⟨j + 1, wrap64 (x + 1), wrap64 (y + 1), rfl, rfl, HW1, ⟨by have := HJ.out; omega⟩, ⟨by rw [HW2.out, HY.out, HC.out]; omega⟩, HB⟩
      | false =>
        obtain ⟨q, hq, hi⟩ := ib_calls sep s j (by have := HJ.out; omega) false hin
        have HC := Aside0.mk (cnt_miss _ _ _ hjl hin)
        rw [← HX.out] at hi
        have HI := Aside0.mk hi
        clear hi hin hjl hcl
        replace hx0 := eq_true hx0
        replace hx1 := eq_true hx1
        go_wp2_with fail
        refine (HI.out _).mono ?_
        rintro e W1 ⟨rfl, rfl⟩
        go_wp2
        go_roundg f
        case measure => omega
        case rel => exact ⟨j + 1, wrap64 (x + 1), y, rfl, rfl, HW1, ⟨by have := HJ.out; omega⟩, ⟨by rw [HC.out]; exact HY.out⟩, HB⟩
    | zero =>
      have hx1 : ¬ x < (s.size : Int) := by rw [HX.out]; have := HJ.out; omega
      have d2 : decide (x < (s.size : Int)) = false := decide_eq_false hx1
      have hY := HY.out
      rw [List.take_of_length_le (by rw [← size_len]; have := HJ.out; omega)] at hY
      have HY2 : Aside0 (y = ((1 + cnt sep.data.toList s.data.toList : Nat) : Int)) := ⟨hY⟩
      have hcl := cnt_le sep.data.toList s.data.toList
      rw [← size_len] at hcl
      have HT0 : Aside0 (wrap64 (y - 1) = (cnt sep.data.toList s.data.toList : Int)) := ⟨by rw [hY, A.w64 (by omega) (by have := HS.out; omega)]; omega⟩
      clear hY HY hcl HX HJ hx1
      go_wp2_with fail
      refine (split_calls s sep _ (by have := HS.out; omega)).mono ?_
      rintro e w3 ⟨v, rfl, hr, hb⟩
      have HB3 := on_ HB hb
      obtain ⟨parts, hparts⟩ : ∃ z, split s sep = z := ⟨_, rfl⟩
      have HPs := Aside0.mk hparts
      rw [hparts] at hr
      obtain ⟨A, c, rfl, hc, hC⟩ := Kd.R_reads hr
      have HC := Aside0.mk hC
      have HPl : Aside0 ((parts.length : Int) = y) := ⟨by rw [HY2.out, ← hparts, split_count]⟩
      have HPm : Aside0 (parts.length ≤ 2001) := ⟨by rw [← hparts, split_count]; have := cnt_le sep.data.toList s.data.toList; rw [← size_len] at this; have := HS.out; omega⟩
      clear hb hr hc hC hparts HB
      go_wp2
      go_loopg [8, 44] parts.length (fun f v8 v44 wr2 => ∃ (j : Nat) (x t : Int), v44 = .int .i64 x ∧ v8 = .int .i64 t ∧ Aside0 (x = (j : Int)) ∧ Aside0 (j + f = parts.length) ∧ Aside0 (t = ((cnt sep.data.toList s.data.toList + sums parts j : Nat) : Int)) ∧ Aside0 (Kd.C Kd.string wr2 A parts.length parts) ∧ Aside0 (Below w.heap.size w wr2))
      case atStart => exact ⟨0, 0, _, rfl, rfl, ⟨rfl⟩, ⟨by omega⟩, ⟨by rw [HT0.out]; simp [sums]⟩, HC, HB3⟩
      case round =>
        clear HC HB3
        obtain ⟨m, z, t, rfl, rfl, HX, HJ, HT, HC, HB⟩ := hrel
        cases gk with
        | succ f =>
          have hx0 : 0 ≤ z := by rw [HX.out]; omega
          have hx1 : z < (parts.length : Int) := by rw [HX.out]; have := HJ.out; omega
          have d3 : decide (z < (parts.length : Int)) = true := decide_eq_true hx1
          obtain ⟨ad, e, hcell⟩ := Kd.at_string HC.out z hx0 hx1
          cases e
          have hml : m < parts.length := by have := HJ.out; omega
          have HW1 : Aside0 (wrap64 (z + 1) = ((m + 1 : Nat) : Int)) := ⟨by rw [HX.out, A.w64 (by omega) (by have := HPm.out; omega)]; omega⟩
          have hmem : rdOf ByteArray.empty parts z ∈ parts := by rw [HX.out]; exact rdOf_mem parts m hml
          have hsum := sums_succ parts m hml
          have hsl := sums_le s sep (m + 1)
          rw [HPs.out] at hsl
          obtain ⟨p, hp⟩ : ∃ p, rdOf ByteArray.empty parts z = p := ⟨_, rfl⟩
          rw [← HX.out, hp] at hsum
          rw [hp] at hcell hmem
          have hps : p.size ≤ 2000 := by have := HS.out; omega
          have hcc := cnt_le sep.data.toList s.data.toList
          rw [← size_len] at hcc
          have HT2 : Aside0 (wrap64 (t + (p.size : Int)) = ((cnt sep.data.toList s.data.toList + sums parts (m + 1) : Nat) : Int)) := ⟨by rw [HT.out, A.w64 (by omega) (by have := HS.out; omega), hsum]; omega⟩
          have HN := Aside0.mk (part_none s sep p (by rw [HPs.out]; exact hmem))
          have HP2 := Aside0.mk hps
          clear hmem hsum hsl hp hps hcc hml
          replace hx0 := eq_true hx0
          replace hx1 := eq_true hx1
          go_wp2
          go_loopg [54] p.size (fun g v54 wi => ∃ (i : Nat) (u : Int), v54 = .int .i64 u ∧ Aside0 (u = (i : Int)) ∧ Aside0 (i + g = p.size) ∧ Aside0 (Kd.C Kd.string wi (some ad) parts.length parts) ∧ Aside0 (Below w.heap.size w wi))
          case atStart => exact ⟨0, 0, rfl, ⟨rfl⟩, ⟨by omega⟩, HC, HB⟩
          case round =>
            clear HC HB
            obtain ⟨i, u, rfl, HU, HI, HC, HB⟩ := hrel
            cases gk with
            | succ g =>
              have hu0 : 0 ≤ u := by rw [HU.out]; omega
              have hu1 : u < (p.size : Int) := by rw [HU.out]; have := HI.out; omega
              have d4 : decide (u < (p.size : Int)) = true := decide_eq_true hu1
              have hil : i < p.size := by have := HI.out; omega
              have HW3 : Aside0 (wrap64 (u + 1) = ((i + 1 : Nat) : Int)) := ⟨by rw [HU.out, A.w64 (by omega) (by have := HP2.out; omega)]; omega⟩
              have hx4 := bt_at p u
              obtain ⟨q, hq, hi⟩ := ib_calls sep p i hil false (HN.out i hil)
              rw [← HU.out] at hi
              have HQ := Aside0.mk hi
              clear hi hil
              replace hu0 := eq_true hu0
              replace hu1 := eq_true hu1
              go_wp2_with fail
              refine (HQ.out _).mono ?_
              rintro e W1 ⟨rfl, rfl⟩
              go_wp2
              go_roundg g
              case measure => omega
              case rel => exact ⟨i + 1, wrap64 (u + 1), rfl, HW3, ⟨by have := HI.out; omega⟩, HC, HB⟩
            | zero =>
              have hu1 : ¬ u < (p.size : Int) := by rw [HU.out]; have := HI.out; omega
              have d4 : decide (u < (p.size : Int)) = false := decide_eq_false hu1
              clear hu1
              go_wp2
              go_roundg f
              case measure => omega
              case rel => exact ⟨m + 1, wrap64 (z + 1), wrap64 (t + (p.size : Int)), rfl, rfl, HW1, ⟨by have := HJ.out; omega⟩, HT2, HC, HB⟩
        | zero =>
          have hx1 : ¬ z < (parts.length : Int) := by rw [HX.out]; have := HJ.out; omega
          have d3 : decide (z < (parts.length : Int)) = false := decide_eq_false hx1
          have hm : m = parts.length := by have := HJ.out; omega
          have ht := HT.out
          have hall := sums_all s sep
          rw [HPs.out] at hall
          rw [hm, hall] at ht
          have e1 : ((parts.length : Int) == y) = true := beq_iff_eq.2 HPl.out
          have e2 : (t == (s.size : Int)) = true := beq_iff_eq.2 ht
          have HS1 : Aside0 (s.size ≤ 1000000) := ⟨by have := HS.out; omega⟩
          obtain ⟨tr, htr⟩ : ∃ z, trim s = z := ⟨_, rfl⟩
          have HTr := Aside0.mk (fun (w0 : World) => by have W := trim_calls s w0 HS1.out; rw [htr] at W; exact W)
          have HTs : Aside0 (tr.size ≤ 1000000) := ⟨by have := trim_size s; have := HS1.out; rw [htr] at *; omega⟩
          obtain ⟨dr, hdr⟩ : ∃ z, drop tr = z := ⟨_, rfl⟩
          have HDr := Aside0.mk (fun (w0 : World) => by have W := drop_calls tr w0 HTs.out; rw [hdr] at W; exact W)
          have HDs : Aside0 (dr.size ≤ 1000000) := ⟨by have := drop_size tr; have := HTs.out; rw [hdr] at *; omega⟩
          have HDc : Aside0 (Go.Proofs.Ytgmhfeldahanpaa.A.Clean dr) := ⟨by rw [← hdr]; exact drop_clean tr⟩
          have HDd := Aside0.mk (fun (w0 : World) => by have W := drop_calls dr w0 HDs.out; rw [← hdr, drop_drop, hdr] at W; exact W)
          have HCa := Aside0.mk (fun (w0 : World) => ca_calls dr w0 HDc.out HDs.out)
          clear ht hall hm hx1 htr hdr HX HJ HT
          go_wp2_with fail
          refine (HTr.out _).mono ?_
          rintro e w11 ⟨rfl, hb⟩
          have HB11 := on_ HB hb
          clear hb HB HTr
          go_wp2_with fail
          refine (HDr.out _).mono ?_
          rintro e w12 ⟨rfl, hb⟩
          have HB12 := on_ HB11 hb
          clear hb HB11 HDr
          go_wp2_with fail
          refine (HCa.out _).mono ?_
          rintro e w13 ⟨rfl, hb⟩
          have HB13 := on_ HB12 hb
          clear hb HB12 HCa
          go_wp2_with fail
          refine (HDd.out _).mono ?_
          rintro e w14 ⟨rfl, hb⟩
          have HB14 := on_ HB13 hb
          clear hb HB13 HDd
          go_wp2
          go_ret
          exact ⟨by simp, HB14.out⟩

theorem walk (a0 : ByteArray) (a1 : ByteArray) (w0 : a0.size ≤ maxLen) (w1 : a1.size ≤ maxLen) (w : World) :
    Calls Try.prog 7 #[.string a0, .string a1] w fun e w' => e = .returned (.bool true) ∧ Below w.heap.size w w' := by
  unfold maxLen at w0 w1
  by_cases h : 2000 < a0.size
  · exact walk_long a0 a1 w h w0
  by_cases h2 : 20 < a1.size
  · exact walk_wide a0 a1 w h h2 w1
  · exact walk_short a0 a1 w h h2

/-! ### The row's step (the shell's) -/
set_option maxRecDepth 100000 in
theorem lifted (os : Os) (started : os.Started) (H : Type) (enc : TypeId × Value → H) :
    ReturnsInHanded {} Try.checked os 7 .any (Rows.scalarSplitsSpec.pre6 enc Try.prog Try.f7 Rows.scalarSplitsRow.domain false) (Rows.scalarSplitsSpec.post enc Try.prog Try.f7 false true false false) := by
  refine returnsInHanded_of_change (C := Try.checked) own started (by kernel_rfl) Try.func7
    (ChangeSpec.witness6 (enc := enc) (C := Try.checked) false ⟨#[], #[.string ByteArray.empty, .string ByteArray.empty], []⟩ 8 (by kernel_rfl) (by kernel_rfl) (by kernel_rfl) (by kernel_rfl)) ?_
  intro W base args ds gs before hval0 hW hcnd _
  have hval : ∀ (j : Nat) t v, Try.f7.params[j]? = some t → args[j]? = some v → Value.okWide Try.prog W .any base t v := hval0
  have hW' := hW
  obtain ⟨p, q, hA0, hV, rfl, hfz, hnd⟩ := hW
  have hA : DataW.TrodAll enc Try.prog W 0 (fun _ => true) true Try.f7.params.toList args.toList ds p := hA0
  rw [Try.params7] at hA hval
  obtain ⟨v0, vs0, d0, ds0, p0, q0, hargs, rfl, rfl, h0, r0⟩ := trodAll_cons hA
  obtain ⟨v1, vs1, d1, ds1, p1, q1, rfl, rfl, rfl, h1, r1⟩ := trodAll_cons r0
  obtain ⟨rfl, rfl, rfl⟩ := trodAll_nil r1
  obtain rfl : args = #[v0, v1] := by cases args; simp_all
  obtain ⟨rfl, rfl⟩ := trodVars_none hV
  obtain ⟨a0, rfl, rfl, rfl, w0⟩ := open_string Try.underlying9 (hval 0 9 v0 rfl rfl) h0
  obtain ⟨a1, rfl, rfl, rfl, w1⟩ := open_string Try.underlying9 (hval 1 9 v1 rfl rfl) h1
  clear hA0 hval0
  refine (walk a0 a1 w0 w1 W).mono fun e W' ⟨he, bel⟩ => ?_
  subst he
  exact ⟨_, rfl, _, _, _, [], _, [], hW', trodAll_mk1 (shut_bool Try.underlying4 _), (trodAll_cons_mk (shut_string Try.underlying9 w0) (trodAll_cons_mk (shut_string Try.underlying9 w1) trodAll_mk0)), rfl, bel.frame _, fun h => by cases h⟩

theorem over : Rows.scalarSplitsRow.holds Try.pinned (OpenSpec.ofChange Rows.scalarSplitsSpec) :=
  OpenClaim.holds_of_wide 7 Try.f7 rfl rfl rfl rfl rfl rfl rfl ⟨rfl, rfl, rfl, rfl, rfl⟩ rfl rfl rfl rfl rfl (by kernel_rfl) Try.func7 (by kernel_rfl)
    (of_decide_eq_true (by kernel_rfl)) (by unfold Func.isWrapper; first | (rw [if_pos (by decide +kernel)]; kernel_rfl) | (rw [if_neg (by decide +kernel)]; exact ⟨rfl, rfl⟩))
    (fun os started H enc _ => lifted os started H enc)

/-- The statement. -/
theorem proved : Rows.ScalarSplitsSaid :=
  over
#print axioms proved
end Go.Proofs.Ytgmhfeldahanpaa.scalarSplits
namespace Go.Proofs.Ytgmhfeldahanpaa
/-- The row, under a short name, for the claim. -/
theorem scalarSplits_holds : Rows.ScalarSplitsSaid := scalarSplits.proved
end Go.Proofs.Ytgmhfeldahanpaa
