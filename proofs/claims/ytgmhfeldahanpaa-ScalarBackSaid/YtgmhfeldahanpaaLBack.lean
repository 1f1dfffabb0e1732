/-
  For every slice of numbers and every text the law ScalarBack returns true: code points are written and read again as they were, a text that was written is read and written the same, parts are put together again, Trim and Lower twice are as once. No condition of ours.
  (The frame of the row is the kit's shell, proof-skeleton.mjs; the walk is by hand.)
-/
import Derived.Test.YtgmhfeldahanpaaRows
import Derived.WalkKit
import Derived.ProofKit
import Derived.OpenShut
import Derived.ShutString
import Derived.ChangeOld
import Derived.Below
import Derived.Test.YtgmhfeldahanpaaAAwake
import Derived.Test.YtgmhfeldahanpaaABack
namespace Go.Proofs.Ytgmhfeldahanpaa.scalarBack
open Go.ChangeShapes Go.WideShapes Go.ChangeAt Go.RowKit
open Go.ChangeMaps (open_string shut_string)
open Go.Proofs.YtgmhfeldahanpaaW.PrintWords Go.Proofs.YtgmhfeldahanpaaW.PrintLast Go.Proofs.YtgmhfeldahanpaaW.PrintMore
open Go.Proofs.Ytgmhfeldahanpaa.A
set_option linter.unusedVariables false
set_option linter.unusedSimpArgs false

theorem own : ownKnob Try.prog.godebug = none := by kernel_rfl
theorem laidOut : laidOutB Try.prog = true := by kernel_rfl

/-- WHAT THE WALK IS TOLD OF A SLICE OF INTEGERS THAT CAME IN: it is nil; or it leads to a row of 'cap' cells, the numbers 'zs' (the first 'len' are its elements, the rest its spare room), each fitting its kind. -/
def IsRow (k : IntKind) (w : World) (a : Option Addr) (len cap : Nat) (zs : List Int) : Prop :=
  (a = none ∧ len = 0 ∧ cap = 0 ∧ zs = []) ∨
  ∃ x, a = some x ∧ len ≤ cap ∧ cap ≤ maxLen ∧ zs.length = cap ∧ (∀ i, i < zs.length → w.cell? (x.add i) = some (.int k (zs.getD i 0))) ∧ ∀ n ∈ zs, (Lit.int k n).wf = true

set_option maxHeartbeats 4000000 in
set_option maxRecDepth 1000000 in
theorem walk_long (A : Option Addr) (c : Nat) (l : List Int) (s : ByteArray) (w : World) (hl : 1000 < l.length) (hm : l.length ≤ 9223372036854775807) :
    Calls Try.prog 6 #[.slice A l.length c, .string s] w fun e w' => e = .returned (.bool true) ∧ Below w.heap.size w w' := by
  have d0 : decide ((1000 : Int) < (l.length : Int)) = true := decide_eq_true (by omega)
  go_enter Try.func6, Try.ntmps6
  go_wp2_with fail
  refine (awake_calls _).mono ?_
  rintro e w1 ⟨rfl, hb⟩
  go_wp2
  go_ret
  exact ⟨rfl, hb⟩

set_option maxHeartbeats 4000000 in
set_option maxRecDepth 1000000 in
theorem walk_wide (A : Option Addr) (c : Nat) (l : List Int) (s : ByteArray) (w : World) (hl : ¬ 1000 < l.length) (hl2 : 2000 < s.size) (hm : s.size ≤ 9223372036854775807) :
    Calls Try.prog 6 #[.slice A l.length c, .string s] w fun e w' => e = .returned (.bool true) ∧ Below w.heap.size w w' := by
  have d0 : decide ((1000 : Int) < (l.length : Int)) = false := decide_eq_false (by omega)
  have d1 : decide ((2000 : Int) < (s.size : Int)) = true := decide_eq_true (by omega)
  go_enter Try.func6, Try.ntmps6
  go_wp2_with fail
  refine (awake_calls _).mono ?_
  rintro e w1 ⟨rfl, hb⟩
  go_wp2
  go_ret
  exact ⟨rfl, hb⟩

/-- What is known behind each call: the world is as it was below. -/
theorem on_ {w w1 w2 : World} (h : Aside0 (Below w.heap.size w w1)) (k : Below w1.heap.size w1 w2) : Aside0 (Below w.heap.size w w2) := ⟨below_then h.out h.out.size k⟩

set_option maxHeartbeats 16000000 in
set_option maxRecDepth 1000000 in
theorem walk_short (A : Option Addr) (c : Nat) (l : List Int) (s : ByteArray) (w : World) (hl : ¬ 1000 < l.length) (hl2 : ¬ 2000 < s.size) (hb : ∀ x ∈ l, -2147483648 ≤ x ∧ x ≤ 2147483647) (hr : Kd.C (Kd.int .i32) w A l.length l) (hc : l.length ≤ c) :
    Calls Try.prog 6 #[.slice A l.length c, .string s] w fun e w' => e = .returned (.bool true) ∧ Below w.heap.size w w' := by
  have d0 : decide ((1000 : Int) < (l.length : Int)) = false := decide_eq_false (by omega)
  have d1 : decide ((2000 : Int) < (s.size : Int)) = false := decide_eq_false (by omega)
  have HBD := Aside0.mk hb
  have HR := Aside0.mk hr
  have HC := Aside0.mk hc
  have HL : Aside0 (l.length ≤ 1000) := ⟨by omega⟩
  have HS : Aside0 (s.size ≤ 2000) := ⟨by omega⟩
  clear hb hr hc hl hl2
  go_enter Try.func6, Try.ntmps6
  go_wp2_with fail
  refine (awake_calls _).mono ?_
  rintro e w1 ⟨rfl, hb⟩
  have HB := Aside0.mk hb
  clear hb
  go_wp2
  go_loopg [5, 22] l.length (fun f v5 v22 wr => ∃ (j : Nat) (x : Int), v22 = .int .i64 x ∧ Aside0 (x = (j : Int)) ∧ Aside0 (j + f = l.length) ∧ Aside0 (Kd.R (Kd.int .i32) 21 wr w.heap.size (fun _ => True) v5 ((l.take j).map fix)) ∧ Aside0 (Below w.heap.size w wr))
  case atStart => exact ⟨0, 0, rfl, ⟨rfl⟩, ⟨by omega⟩, ⟨Kd.R_nil _ _ _ _ _⟩, HB⟩
  case round =>
    clear HB
    obtain ⟨j, x, rfl, HX, HJ, HR5, HB⟩ := hrel
    cases gk with
    | succ f =>
      have hx0 : 0 ≤ x := by rw [HX.out]; omega
      have hx1 : x < (l.length : Int) := by rw [HX.out]; have := HJ.out; omega
      have d2 : decide (x < (l.length : Int)) = true := decide_eq_true hx1
      obtain ⟨ad, e, hcell⟩ := Kd.at_int HR.out x hx0 hx1
      cases e
      replace hcell := (HB.out.cell (World.block_lt_of_cell? w _ hcell)).trans hcell
      have HW1 : Aside0 (wrap64 (x + 1) = ((j + 1 : Nat) : Int)) := ⟨by rw [HX.out, A.w64 (by omega) (by have := HL.out; have := HJ.out; omega)]; omega⟩
      have HT : Aside0 ((l.take (j + 1)).map fix = (l.take j).map fix ++ [fix (rd l x)]) := ⟨by rw [HX.out]; exact take_fix l j (by have := HJ.out; omega)⟩
      have HN : Aside0 (((l.take j).map fix).length ≤ 1000) := ⟨by rw [List.length_map, List.length_take]; have := HL.out; omega⟩
      replace hx0 := eq_true hx0
      replace hx1 := eq_true hx1
      obtain ⟨acc, hacc⟩ : ∃ acc, (l.take j).map fix = acc := ⟨_, rfl⟩
      rw [hacc] at HT HN HR5
      clear hacc
      cases hcp : isCp (rd l x) with
      | true =>
        have HI := Aside0.mk (is_calls (rd l x) wr)
        rw [hcp] at HI
        have HF : Aside0 (fix (rd l x) = rd l x) := ⟨fix_yes hcp⟩
        clear hcp
        go_wp2_with fail
        refine HI.out.mono ?_
        rintro e w2 ⟨rfl, hb2⟩
        have HB2 := on_ HB hb2
        have HR2 := Aside0.mk (Kd.R_below HR5.out hb2)
        clear hb2 HR5 HB HI
        go_wp2_with (((with_reducible refine gate_builtin (b := .append) (xs := #[.tmp 29, .tmp 31]) rfl ?_); at_builtin; refine Kd.R_append (Kd.int .i32) (w0 := w) w.heap.size rfl (.tmp 29) (.tmp 31) 24 21 (.int .i32 0) 4 rfl Try.underlying24 info21 rfl (by decide) (by omega) u5 acc (rd l x) [.int .i32 (rd l x)] (fun _ => True) (fun _ => False) rfl rfl ?aP (fun _ hk => hk.elim) ?aF ?aO ?aB ?aS ?aL ?_; (case aP => exact rfl); (case aB => exact HB2.out); (case aF => exact (fun _ _ => trivial)); (case aO => exact HR2.out); (case aS => exact HB2.out.size); (case aL => have := HN.out; omega); intro v107 w5 ho hb hg hat; have HO := Aside0.mk ho; have HB5 := Aside0.mk hb; clear ho hb hg hat))
        go_roundg f
        case measure => omega
        case rel =>
          have ho := HO.out
          rw [← HF.out, ← HT.out] at ho
          exact ⟨j + 1, wrap64 (x + 1), rfl, HW1, ⟨by have := HJ.out; omega⟩, ⟨ho⟩, HB5⟩
      | false =>
        have HI := Aside0.mk (is_calls (rd l x) wr)
        rw [hcp] at HI
        have HF : Aside0 (fix (rd l x) = 65533) := ⟨fix_not hcp⟩
        clear hcp
        go_wp2_with fail
        refine HI.out.mono ?_
        rintro e w2 ⟨rfl, hb2⟩
        have HB2 := on_ HB hb2
        have HR2 := Aside0.mk (Kd.R_below HR5.out hb2)
        clear hb2 HR5 HB HI
        go_wp2_with (((with_reducible refine gate_builtin (b := .append) (xs := #[.tmp 29, .tmp 31]) rfl ?_); at_builtin; refine Kd.R_append (Kd.int .i32) (w0 := w) w.heap.size rfl (.tmp 29) (.tmp 31) 24 21 (.int .i32 0) 4 rfl Try.underlying24 info21 rfl (by decide) (by omega) u5 acc 65533 [.int .i32 65533] (fun _ => True) (fun _ => False) rfl rfl ?aP (fun _ hk => hk.elim) ?aF ?aO ?aB ?aS ?aL ?_; (case aP => exact rfl); (case aB => exact HB2.out); (case aF => exact (fun _ _ => trivial)); (case aO => exact HR2.out); (case aS => exact HB2.out.size); (case aL => have := HN.out; omega); intro v107 w5 ho hb hg hat; have HO := Aside0.mk ho; have HB5 := Aside0.mk hb; clear ho hb hg hat))
        go_roundg f
        case measure => omega
        case rel =>
          have ho := HO.out
          rw [← HF.out, ← HT.out] at ho
          exact ⟨j + 1, wrap64 (x + 1), rfl, HW1, ⟨by have := HJ.out; omega⟩, ⟨ho⟩, HB5⟩
    | zero =>
      have hx1 : ¬ x < (l.length : Int) := by rw [HX.out]; have := HJ.out; omega
      have d2 : decide (x < (l.length : Int)) = false := decide_eq_false hx1
      have HRw := HR5.out
      rw [List.take_of_length_le (by have := HJ.out; omega)] at HRw
      obtain ⟨want, hwant⟩ : ∃ z, l.map fix = z := ⟨_, rfl⟩
      have HWl : Aside0 (want.length ≤ 1000) := ⟨by rw [← hwant, List.length_map]; exact HL.out⟩
      obtain ⟨t, ht⟩ : ∃ t, text l = t := ⟨_, rfl⟩
      have HT1 : Aside0 (runes t = want) := ⟨by rw [← ht, runes_text, hwant]⟩
      have HT2 : Aside0 (text want = t) := ⟨by rw [← HT1.out, ← ht, text_runes_text]⟩
      have HT3 : Aside0 (t.size ≤ 4000) := ⟨by rw [← ht]; have := text_size l; have := HL.out; omega⟩
      have HWb : Aside0 (∀ x ∈ want, -2147483648 ≤ x ∧ x ≤ 2147483647) := ⟨fun x hx => by rw [← HT1.out] at hx; have := runes_bound t x hx; omega⟩
      obtain ⟨rs, hrs⟩ : ∃ z, runes s = z := ⟨_, rfl⟩
      have HRl : Aside0 (rs.length ≤ 2000) := ⟨by rw [← hrs]; have := runes_length s; have := HS.out; omega⟩
      have HRb : Aside0 (∀ x ∈ rs, -2147483648 ≤ x ∧ x ≤ 2147483647) := ⟨fun x hx => by rw [← hrs] at hx; have := runes_bound s x hx; omega⟩
      obtain ⟨o, ho⟩ : ∃ o, text rs = o := ⟨_, rfl⟩
      have HO1 : Aside0 (text (runes o) = o) := ⟨by rw [← ho, text_runes_text]⟩
      have HO3 : Aside0 (o.size ≤ 8000) := ⟨by rw [← ho]; have := text_size rs; have := HRl.out; omega⟩
      obtain ⟨ro, hro⟩ : ∃ z, runes o = z := ⟨_, rfl⟩
      have HO2 : Aside0 (text ro = o) := ⟨by rw [← hro]; exact HO1.out⟩
      have HOl : Aside0 (ro.length ≤ 8000) := ⟨by rw [← hro]; have := runes_length o; have := HO3.out; omega⟩
      have HOb : Aside0 (∀ x ∈ ro, -2147483648 ≤ x ∧ x ≤ 2147483647) := ⟨fun x hx => by rw [← hro] at hx; have := runes_bound o x hx; omega⟩
      have HTt := Aside0.mk (fun (w0 : World) hr => by have W := text_calls A c l w0 (by have := HL.out; omega) HBD.out hr HC.out; rw [ht] at W; exact W)
      have HSs := Aside0.mk (fun (w0 : World) => by have W := scalars_calls s w0 (by have := HS.out; omega); rw [hrs] at W; exact W)
      have HTs := Aside0.mk (fun (A : Option Addr) (c : Nat) (w0 : World) hr hc => by have W := text_calls A c rs w0 (by have := HRl.out; omega) HRb.out hr hc; rw [ho] at W; exact W)
      have HSt := Aside0.mk (fun (w0 : World) => by have W := scalars_calls t w0 (by have := HT3.out; omega); rw [HT1.out] at W; exact W)
      have HTw := Aside0.mk (fun (A : Option Addr) (c : Nat) (w0 : World) hr hc => by have W := text_calls A c want w0 (by have := HWl.out; omega) HWb.out hr hc; rw [HT2.out] at W; exact W)
      have HSo := Aside0.mk (fun (w0 : World) => by have W := scalars_calls o w0 (by have := HO3.out; omega); rw [hro] at W; exact W)
      have HTo := Aside0.mk (fun (A : Option Addr) (c : Nat) (w0 : World) hr hc => by have W := text_calls A c ro w0 (by have := HOl.out; omega) HOb.out hr hc; rw [HO2.out] at W; exact W)
      have HS1 : Aside0 (s.size ≤ 1000000) := ⟨by have := HS.out; omega⟩
      obtain ⟨tr, htr⟩ : ∃ z, trim s = z := ⟨_, rfl⟩
      have HTr := Aside0.mk (fun (w0 : World) => by have W := trim_calls s w0 HS1.out; rw [htr] at W; exact W)
      have HTr2 := Aside0.mk (fun (w0 : World) => by have W := trim_calls tr w0 (by have := trim_size s; have := HS1.out; rw [htr] at *; omega); rw [← htr, trim_trim, htr] at W; exact W)
      obtain ⟨lo, hlo⟩ : ∃ z, lower s = z := ⟨_, rfl⟩
      have HLo := Aside0.mk (fun (w0 : World) => by have W := lower_calls s w0 HS1.out; rw [hlo] at W; exact W)
      have HLo2 := Aside0.mk (fun (w0 : World) => by have W := lower_calls lo w0 (by have := lower_size s; have := HS1.out; rw [hlo] at *; omega); rw [← hlo, lower_lower, hlo] at W; exact W)
      rw [hwant] at HRw
      obtain ⟨Aw, cw, hv, hcw, hCw⟩ := Kd.R_reads HRw
      subst hv
      have HCw := Aside0.mk hCw
      have HCc := Aside0.mk hcw
      clear hCw hcw HRw HR5 HX HJ hx1 hwant ht hrs ho hro htr hlo HBD HC HL HRl HRb HO1 HO2 HO3 HOl HOb HT1 HT2 HT3 HWb
      go_wp2_with fail
      refine (HTt.out wr (Kd.C_below HR.out HB.out)).mono ?_
      rintro e w11 ⟨rfl, hb⟩
      have HB11 := on_ HB hb
      have HCw1 := Aside0.mk (Kd.C_below HCw.out hb)
      clear HCw
      clear hb HB
      go_wp2_with fail
      refine (HSs.out _).mono ?_
      rintro e w12 ⟨v, rfl, hr, hb⟩
      have HB12 := on_ HB11 hb
      obtain ⟨A1, c1, rfl, hc1, hC1⟩ := Kd.R_reads hr
      have HA1 := Aside0.mk hC1
      have HC1 := Aside0.mk hc1
      clear hr hC1 hc1
      have HCw2 := Aside0.mk (Kd.C_below HCw1.out hb)
      clear HCw1
      clear hb HB11
      go_wp2_with fail
      refine (HTs.out A1 c1 _ HA1.out HC1.out).mono ?_
      rintro e w13 ⟨rfl, hb⟩
      have HB13 := on_ HB12 hb
      have HCw3 := Aside0.mk (Kd.C_below HCw2.out hb)
      clear HCw2
      clear HA1 HC1
      clear hb HB12
      go_wp2_with fail
      refine (HSt.out _).mono ?_
      rintro e w14 ⟨v, rfl, hr, hb⟩
      have HB14 := on_ HB13 hb
      obtain ⟨A2, c2, rfl, hc2, hC2⟩ := Kd.R_reads hr
      have HA2 := Aside0.mk hC2
      have HC2 := Aside0.mk hc2
      clear hr hC2 hc2
      have HCw4 := Aside0.mk (Kd.C_below HCw3.out hb)
      clear HCw3
      clear hb HB13
      go_wp2_with fail
      refine (equal_calls A2 c2 want Aw cw _ (by have := HWl.out; omega) HA2.out HC2.out HCw4.out HCc.out).mono ?_
      rintro e w15 ⟨rfl, hb⟩
      have HB15 := on_ HB14 hb
      clear HA2 HC2 HCc HCw4
      clear hb HB14
      go_wp2_with fail
      refine (HSt.out _).mono ?_
      rintro e w16 ⟨v, rfl, hr, hb⟩
      have HB16 := on_ HB15 hb
      obtain ⟨A3, c3, rfl, hc3, hC3⟩ := Kd.R_reads hr
      have HA3 := Aside0.mk hC3
      have HC3 := Aside0.mk hc3
      clear hr hC3 hc3
      clear hb HB15
      go_wp2_with fail
      refine (HTw.out A3 c3 _ HA3.out HC3.out).mono ?_
      rintro e w17 ⟨rfl, hb⟩
      have HB17 := on_ HB16 hb
      clear HA3 HC3
      clear hb HB16
      go_wp2_with fail
      refine (HSo.out _).mono ?_
      rintro e w18 ⟨v, rfl, hr, hb⟩
      have HB18 := on_ HB17 hb
      obtain ⟨A4, c4, rfl, hc4, hC4⟩ := Kd.R_reads hr
      have HA4 := Aside0.mk hC4
      have HC4 := Aside0.mk hc4
      clear hr hC4 hc4
      clear hb HB17
      go_wp2_with fail
      refine (HTo.out A4 c4 _ HA4.out HC4.out).mono ?_
      rintro e w19 ⟨rfl, hb⟩
      have HB19 := on_ HB18 hb
      clear HA4 HC4
      clear hb HB18
      go_wp2_with fail
      rw [show (⟨#[47]⟩ : ByteArray) = str [47] from rfl]
      refine (split_calls s (str [47]) _ HS1.out).mono ?_
      rintro e w20 ⟨v, rfl, hr, hb⟩
      have HB20 := on_ HB19 hb
      have HRs := Aside0.mk hr
      obtain ⟨As, cs, hv⟩ := Kd.R_slice hr
      subst hv
      clear hr
      clear hb HB19
      go_wp2_with fail
      refine (join_calls s 47 _ _ _ HS1.out HRs.out).mono ?_
      rintro e w21 ⟨rfl, hb⟩
      have HB21 := on_ HB20 hb
      clear HRs
      clear hb HB20
      go_wp2_with fail
      refine (HTr.out _).mono ?_
      rintro e w22 ⟨rfl, hb⟩
      have HB22 := on_ HB21 hb
      clear hb HB21
      go_wp2_with fail
      refine (HTr2.out _).mono ?_
      rintro e w23 ⟨rfl, hb⟩
      have HB23 := on_ HB22 hb
      clear hb HB22
      go_wp2_with fail
      refine (HTr.out _).mono ?_
      rintro e w24 ⟨rfl, hb⟩
      have HB24 := on_ HB23 hb
      clear hb HB23
      go_wp2_with fail
      refine (HLo.out _).mono ?_
      rintro e w25 ⟨rfl, hb⟩
      have HB25 := on_ HB24 hb
      clear hb HB24
      go_wp2_with fail
      refine (HLo2.out _).mono ?_
      rintro e w26 ⟨rfl, hb⟩
      have HB26 := on_ HB25 hb
      clear hb HB25
      go_wp2_with fail
      refine (HLo.out _).mono ?_
      rintro e w27 ⟨rfl, hb⟩
      have HB27 := on_ HB26 hb
      clear hb HB26
      go_wp2
      go_ret
      exact ⟨by simp, HB27.out⟩

theorem walk (a0 : Option Addr) (len0 cap0 : Nat) (z0 : List Int) (a1 : ByteArray) (w : World) (w0 : IsRow .i32 w a0 len0 cap0 z0) (w1 : a1.size ≤ maxLen) :
    Calls Try.prog 6 #[.slice a0 len0 cap0, .string a1] w fun e w' => e = .returned (.bool true) ∧ Below w.heap.size w w' := by
  obtain ⟨l, rfl, hr, hm, hw, hc⟩ := ReadsInt.ofRowC w0
  unfold maxLen at hm w1
  by_cases h : 1000 < l.length
  · exact walk_long a0 cap0 l a1 w h hm
  by_cases h2 : 2000 < a1.size
  · exact walk_wide a0 cap0 l a1 w h h2 w1
  · exact walk_short a0 cap0 l a1 w h h2 (fun x hx => bounds_i32 (hw x hx)) (Kd.C_of_reads (d := (0 : Int)) (h1 := fun _ => rfl) hr) hc

/-! ### The row's step (the shell's) -/
set_option maxRecDepth 100000 in
theorem lifted (os : Os) (started : os.Started) (H : Type) (enc : TypeId × Value → H) :
    ReturnsInHanded {} Try.checked os 6 .any (Rows.scalarBackSpec.pre6 enc Try.prog Try.f6 Rows.scalarBackRow.domain false) (Rows.scalarBackSpec.post enc Try.prog Try.f6 false true false false) := by
  refine returnsInHanded_of_change (C := Try.checked) own started (by kernel_rfl) Try.func6
    (ChangeSpec.witness6 (enc := enc) (C := Try.checked) false ⟨#[], #[.slice none 0 0, .string ByteArray.empty], []⟩ 8 (by kernel_rfl) (by kernel_rfl) (by kernel_rfl) (by kernel_rfl)) ?_
  intro W base args ds gs before hval0 hW hcnd _
  have hval : ∀ (j : Nat) t v, Try.f6.params[j]? = some t → args[j]? = some v → Value.okWide Try.prog W .any base t v := hval0
  have hW' := hW
  obtain ⟨p, q, hA0, hV, rfl, hfz, hnd⟩ := hW
  have hA : DataW.TrodAll enc Try.prog W 0 (fun _ => true) true Try.f6.params.toList args.toList ds p := hA0
  rw [Try.params6] at hA hval
  obtain ⟨v0, vs0, d0, ds0, p0, q0, hargs, rfl, rfl, h0, r0⟩ := trodAll_cons hA
  obtain ⟨v1, vs1, d1, ds1, p1, q1, rfl, rfl, rfl, h1, r1⟩ := trodAll_cons r0
  obtain ⟨rfl, rfl, rfl⟩ := trodAll_nil r1
  obtain rfl : args = #[v0, v1] := by cases args; simp_all
  obtain ⟨rfl, rfl⟩ := trodVars_none hV
  obtain ⟨a0, len0, cap0, rfl⟩ := okWide_slice Try.underlying24 (hval 0 24 v0 rfl rfl)
  have k0 := h0
  have lt0 : ∀ x ∈ p0, x.block < W.heap.size := by obtain ⟨m, hm⟩ := k0; exact DataW.trod_lt m _ _ _ hm
  obtain ⟨z0, w0⟩ : ∃ zs, IsRow .i32 W a0 len0 cap0 zs := by
    obtain ⟨fuel, hf⟩ := h0
    rcases open_ints Try.underlying24 Try.underlying21 (by kernel_rfl) hf with ⟨hcs, _⟩ | ⟨x, l, c, zs, hcs, _, hl, hm, hz, _, hcell, hwz⟩
    · simp [Value.cells] at hcs
      obtain ⟨rfl, rfl, rfl⟩ := hcs
      exact ⟨[], .inl ⟨rfl, rfl, rfl, rfl⟩⟩
    · simp [Value.cells] at hcs
      obtain ⟨rfl, rfl, rfl⟩ := hcs
      exact ⟨zs, .inr ⟨_, rfl, hl, hm, by simpa using hz, hcell, hwz⟩⟩
  obtain ⟨a1, rfl, rfl, rfl, w1⟩ := open_string Try.underlying9 (hval 1 9 v1 rfl rfl) h1
  clear hA0 hval0
  refine (walk a0 len0 cap0 z0 a1 W w0 w1).mono fun e W' ⟨he, bel⟩ => ?_
  subst he
  exact ⟨_, rfl, _, _, _, [], _, [], hW', trodAll_mk1 (shut_bool Try.underlying4 _), (trodAll_cons_mk (Below.trod laidOut (by kernel_rfl) (of_decide_eq_true (by kernel_rfl)) k0 bel lt0) (trodAll_cons_mk (shut_string Try.underlying9 w1) trodAll_mk0)), rfl, bel.frame _, fun h => by cases h⟩

theorem over : Rows.scalarBackRow.holds Try.pinned (OpenSpec.ofChange Rows.scalarBackSpec) :=
  OpenClaim.holds_of_wide 6 Try.f6 rfl rfl rfl rfl rfl rfl rfl ⟨rfl, rfl, rfl, rfl, rfl⟩ rfl rfl rfl rfl rfl (by kernel_rfl) Try.func6 (by kernel_rfl)
    (of_decide_eq_true (by kernel_rfl)) (by unfold Func.isWrapper; first | (rw [if_pos (by decide +kernel)]; kernel_rfl) | (rw [if_neg (by decide +kernel)]; exact ⟨rfl, rfl⟩))
    (fun os started H enc _ => lifted os started H enc)

/-- The statement. -/
theorem proved : Rows.ScalarBackSaid := over
#print axioms proved
end Go.Proofs.Ytgmhfeldahanpaa.scalarBack
namespace Go.Proofs.Ytgmhfeldahanpaa
/-- The row, under a short name, for the claim. -/
theorem scalarBack_holds : Rows.ScalarBackSaid := scalarBack.proved
end Go.Proofs.Ytgmhfeldahanpaa
