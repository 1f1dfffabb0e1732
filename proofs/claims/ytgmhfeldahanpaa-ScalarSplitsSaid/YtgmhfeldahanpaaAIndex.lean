/-
  strings.IndexRune of a code point that is no ASCII in the three bytes tab, carriage return, line feed: none.
-/
import Derived.Test.YtgmhfeldahanpaaAText
import Derived.Laws.Runes
import Derived.Deep.QuietTactic
import Derived.BigQuiet
import Derived.RegionTactic
import Derived.WalkMore
import Derived.LoopN
import Derived.Lib.IndexAny
import Derived.Lib.IndexBytes
namespace Go.Proofs.Ytgmhfeldahanpaa.A
open Go.RowKit Go.Proofs.YtgmhfeldahanpaaW.PrintWords Go.Proofs.YtgmhfeldahanpaaW.PrintLast Go.Proofs.YtgmhfeldahanpaaW.PrintMore
set_option linter.unusedVariables false
set_option linter.unusedSimpArgs false

set_option maxHeartbeats 4000000 in
set_option maxRecDepth 1000000 in
theorem ir_two (s0 : ByteArray) (r : Int) (w : World) (hz0 : s0.size = 3) (e0 : ∀ h : 1 < s0.size, s0[1]'h = 13) (he : ∀ q : UInt8, 128 ≤ q.toNat → Lib.indexByte (s0.extract 2 3).data.toList q = -1) (h0 : 128 ≤ r) (h1 : r ≤ 1114111) (hne : (r == 65533) = false) (hv : Utf8.valid r = true) (hz : (Utf8.encode r).size = 2) :
    Calls Try.prog 49 #[.string s0, .int .i32 r] w fun e w' => e = .returned (.int .i64 (-1)) ∧ Below w.heap.size w w' := by
  have hlr : Lib.validRune r = true := by
    have := validRune_eq r
    rw [hv] at this
    exact this.symm
  obtain ⟨_, _, hlast⟩ := encode_facts r hv h0
  obtain ⟨rs, hrs⟩ : ∃ rs, Utf8.encode r = rs := ⟨_, rfl⟩
  rw [hrs] at hlast hz
  have HE := Aside0.mk hrs
  obtain ⟨q, hq⟩ : ∃ q : UInt8, rs[1]'(by omega) = q := ⟨_, rfl⟩
  have hq128 : 128 ≤ q.toNat := by
    have := hlast (by omega)
    simp only [hz] at this
    rw [← hq]; exact this
  have hx : ∀ h : 1 < rs.size, rs[1]'h = q := fun _ => hq
  have hn : ((13 : Int) != (q.toNat : Int)) = true := bne_iff_ne.2 (by omega)
  have hi : ∀ w : World, Calls Try.prog 33 #[.string (s0.extract 2 3), .int .u8 (q.toNat : Int)] w fun e w' => e = .returned (.int .i64 (-1)) ∧ w' = w := by
    intro w
    have := Try.strings_IndexByte (s0.extract 2 3) (q.toNat : Int) w
    rw [show ((q.toNat : Int)).toNat.toUInt8 = q by simp, he q hq128] at this
    exact this
  have HI := Aside0.mk hi
  clear hlast hv hq hi he
  have d0 : decide (r < 128) = false := decide_eq_false (by omega)
  have d1 : decide (0 ≤ r) = true := decide_eq_true (by omega)
  clear h0 h1
  go_enter Try.func49, Try.ntmps49
  go_wp2_with fail
  refine (Try.utf8_ValidRune _ _).mono ?_
  rw [hlr]
  rintro e w' ⟨rfl, rfl⟩
  go_wp2_with fail
  go_step3
  go_wp2_with fail
  refine wp_loop_rounds 1 ?_
  rw [rounds_succ]
  go_wp2_with fail
  go_step3
  go_wp2_with fail
  go_quiet (fail)
  have HB2 : Aside0 (Below w'.heap.size w' (w'.drewN nq)) := ⟨pw_below_drewN (Below.refl _ _) _⟩
  generalize w'.drewN nq = w2 at HB2
  go_wp2_with fail
  go_quiet ((go_at_call 33; exact Calls.quiet_of_same (HI.out _)))
  go_wp2_with fail
  rw [Exit.noGoto_ret]
  go_wp2_with fail
  rw [Exit.noGoto_ret]
  go_wp2_with fail
  go_ret
  exact ⟨rfl, pw_below_drewN HB2.out _⟩
set_option maxHeartbeats 4000000 in
set_option maxRecDepth 1000000 in
theorem ir_three (s0 : ByteArray) (r : Int) (w : World) (hz0 : s0.size = 3) (e0 : ∀ h : 2 < s0.size, s0[2]'h = 10) (h0 : 128 ≤ r) (h1 : r ≤ 1114111) (hne : (r == 65533) = false) (hv : Utf8.valid r = true) (hz : (Utf8.encode r).size = 3) :
    Calls Try.prog 49 #[.string s0, .int .i32 r] w fun e w' => e = .returned (.int .i64 (-1)) ∧ Below w.heap.size w w' := by
  have hlr : Lib.validRune r = true := by
    have := validRune_eq r
    rw [hv] at this
    exact this.symm
  obtain ⟨_, _, hlast⟩ := encode_facts r hv h0
  obtain ⟨rs, hrs⟩ : ∃ rs, Utf8.encode r = rs := ⟨_, rfl⟩
  rw [hrs] at hlast hz
  have HE := Aside0.mk hrs
  obtain ⟨q, hq⟩ : ∃ q : UInt8, rs[2]'(by omega) = q := ⟨_, rfl⟩
  have hq128 : 128 ≤ q.toNat := by
    have := hlast (by omega)
    simp only [hz] at this
    rw [← hq]; exact this
  have hx : ∀ h : 2 < rs.size, rs[2]'h = q := fun _ => hq
  have hn : ((10 : Int) != (q.toNat : Int)) = true := bne_iff_ne.2 (by omega)
  have hi : ∀ w : World, Calls Try.prog 33 #[.string (ByteArray.empty), .int .u8 (q.toNat : Int)] w fun e w' => e = .returned (.int .i64 (-1)) ∧ w' = w := by
    intro w
    have := Try.strings_IndexByte (ByteArray.empty) (q.toNat : Int) w
    rw [show ((q.toNat : Int)).toNat.toUInt8 = q by simp, show Lib.indexByte ByteArray.empty.data.toList q = -1 from rfl] at this
    exact this
  have HI := Aside0.mk hi
  clear hlast hv hq hi
  have d0 : decide (r < 128) = false := decide_eq_false (by omega)
  have d1 : decide (0 ≤ r) = true := decide_eq_true (by omega)
  clear h0 h1
  go_enter Try.func49, Try.ntmps49
  go_wp2_with fail
  refine (Try.utf8_ValidRune _ _).mono ?_
  rw [hlr]
  rintro e w' ⟨rfl, rfl⟩
  go_wp2_with fail
  go_step3
  go_wp2_with fail
  refine wp_loop_rounds 1 ?_
  rw [rounds_succ]
  go_wp2_with fail
  go_step3
  go_wp2_with fail
  go_quiet (fail)
  have HB2 : Aside0 (Below w'.heap.size w' (w'.drewN nq)) := ⟨pw_below_drewN (Below.refl _ _) _⟩
  generalize w'.drewN nq = w2 at HB2
  go_wp2_with fail
  have hw3 : IntKind.i64.wrap 3 = 3 := by decide
  go_quiet ((go_at_call 33; exact Calls.quiet_of_same (HI.out _)))
  go_wp2_with fail
  rw [Exit.noGoto_ret]
  go_wp2_with fail
  rw [Exit.noGoto_ret]
  go_wp2_with fail
  go_ret
  exact ⟨rfl, pw_below_drewN HB2.out _⟩

set_option maxHeartbeats 4000000 in
set_option maxRecDepth 1000000 in
theorem ir_four (s0 : ByteArray) (r : Int) (w : World) (hz0 : s0.size = 3) (h0 : 128 ≤ r) (h1 : r ≤ 1114111) (hne : (r == 65533) = false) (hv : Utf8.valid r = true) (hz : (Utf8.encode r).size = 4) :
    Calls Try.prog 49 #[.string s0, .int .i32 r] w fun e w' => e = .returned (.int .i64 (-1)) ∧ Below w.heap.size w w' := by
  have hlr : Lib.validRune r = true := by
    have := validRune_eq r
    rw [hv] at this
    exact this.symm
  obtain ⟨rs, hrs⟩ : ∃ rs, Utf8.encode r = rs := ⟨_, rfl⟩
  rw [hrs] at hz
  have d0 : decide (r < 128) = false := decide_eq_false (by omega)
  have d1 : decide (0 ≤ r) = true := decide_eq_true (by omega)
  clear h0 h1 hv
  go_enter Try.func49, Try.ntmps49
  go_wp2_with fail
  refine (Try.utf8_ValidRune _ _).mono ?_
  rw [hlr]
  rintro e w' ⟨rfl, rfl⟩
  go_wp2_with fail
  go_step3
  go_wp2_with fail
  refine wp_loop_rounds 1 ?_
  rw [rounds_succ]
  go_wp2_with fail
  rw [Exit.noGoto_ret]
  go_wp2_with fail
  go_ret
  exact ⟨rfl, Below.refl _ _⟩

set_option maxHeartbeats 4000000 in
set_option maxRecDepth 1000000 in
theorem ir_bad (s0 : ByteArray) (r : Int) (w : World) (h0 : r < 0 ∨ 128 ≤ r) (hne : (r == 65533) = false) (hv : Lib.validRune r = false) :
    Calls Try.prog 49 #[.string s0, .int .i32 r] w fun e w' => e = .returned (.int .i64 (-1)) ∧ Below w.heap.size w w' := by
  rcases h0 with h0 | h0
  · have d1 : decide (0 ≤ r) = false := decide_eq_false (by omega)
    clear h0
    go_enter Try.func49, Try.ntmps49
    go_wp2_with fail
    refine (Try.utf8_ValidRune _ _).mono ?_
    rw [hv]
    rintro e w' ⟨rfl, rfl⟩
    go_wp2
    go_ret
    exact ⟨rfl, Below.refl _ _⟩
  · have d0 : decide (r < 128) = false := decide_eq_false (by omega)
    have d1 : decide (0 ≤ r) = true := decide_eq_true (by omega)
    clear h0
    go_enter Try.func49, Try.ntmps49
    go_wp2_with fail
    refine (Try.utf8_ValidRune _ _).mono ?_
    rw [hv]
    rintro e w' ⟨rfl, rfl⟩
    go_wp2
    go_ret
    exact ⟨rfl, Below.refl _ _⟩

set_option maxHeartbeats 4000000 in
set_option maxRecDepth 1000000 in
theorem ir_error (s0 : ByteArray) (w : World) (hz0 : s0.size = 3) (ha : ∀ i (h : i < s0.size), (s0[i]'h).toNat < 128) :
    Calls Try.prog 49 #[.string s0, .int .i32 65533] w fun e w' => e = .returned (.int .i64 (-1)) ∧ Below w.heap.size w w' := by
  have HA := Aside0.mk ha
  have HZ := Aside0.mk hz0
  clear ha hz0
  go_enter Try.func49, Try.ntmps49
  go_wp2
  go_loopg [] 3 (fun g wx => ∃ i : Nat, Aside0 (i + g = 3) ∧ wx = w.iter s0 i)
  case atStart => exact ⟨0, ⟨by omega⟩, rfl⟩
  case round =>
    obtain ⟨i, hig, rfl⟩ := hrel
    cases gk with
    | zero =>
      have hnx := fun ty => run_next_end (P := Try.prog) w s0 i ty (by have := hig.out; have := HZ.out; omega)
      go_wp2
      go_ret
      exact ⟨rfl, (Below.refl _ w).alloc (Nat.le_refl _) _⟩
    | succ g =>
      have hi : i < s0.size := by have := hig.out; have := HZ.out; omega
      have hnx := fun ty => run_next_ascii (P := Try.prog) w s0 i ty hi (HA.out i hi)
      have hlt := HA.out i hi
      obtain ⟨c, hc⟩ : ∃ c : Nat, (s0[i]'hi).toNat = c := ⟨_, rfl⟩
      rw [hc] at hnx hlt
      have hn : ((c : Int) == 65533) = false := beq_eq_false_iff_ne.2 (by omega)
      clear hc
      go_wp2
      go_roundg g
      case measure => omega
      case rel => exact ⟨i + 1, ⟨by have := hig.out; omega⟩, rfl⟩
/-! ### all code points; strings.IndexAny, strings.ContainsAny -/
def tabs : ByteArray := ⟨#[9, 13, 10]⟩

theorem ir_ascii (r : Int) (w : World) (h0 : 0 ≤ r) (h1 : r < 128) (h : r ≠ 9 ∧ r ≠ 10 ∧ r ≠ 13) :
    Calls Try.prog 49 #[.string tabs, .int .i32 r] w fun e w' => e = .returned (.int .i64 (-1)) ∧ Below w.heap.size w w' := by
  have W := Try.strings_IndexRune_ascii tabs r w h0 h1
  have e : Lib.indexByte tabs.data.toList r.toNat.toUInt8 = -1 := by
    obtain ⟨n, rfl⟩ : ∃ n : Nat, r = n := ⟨r.toNat, by omega⟩
    have hn : n < 128 := by omega
    have hne : n ≠ 9 ∧ n ≠ 10 ∧ n ≠ 13 := by omega
    have key : ∀ m : Fin 128, m.val ≠ 9 ∧ m.val ≠ 10 ∧ m.val ≠ 13 → Lib.indexByte tabs.data.toList m.val.toUInt8 = -1 := by decide +kernel
    exact key ⟨n, hn⟩ hne
  rw [e] at W
  exact W.mono fun e w' ⟨he, hw⟩ => ⟨he, hw ▸ Below.refl _ _⟩

theorem ir_all (r : Int) (w : World) (h0 : -2147483648 ≤ r) (h1 : r ≤ 2147483647) (h : r ≠ 9 ∧ r ≠ 10 ∧ r ≠ 13) :
    Calls Try.prog 49 #[.string tabs, .int .i32 r] w fun e w' => e = .returned (.int .i64 (-1)) ∧ Below w.heap.size w w' := by
  by_cases c0 : r < 0 ∨ 128 ≤ r
  · by_cases c1 : r = 65533
    · subst c1
      refine ir_error tabs w rfl ?_
      decide
    · have hne : (r == 65533) = false := beq_eq_false_iff_ne.2 c1
      cases hv : Lib.validRune r with
      | false => exact ir_bad tabs r w c0 hne hv
      | true =>
        have hv2 : Utf8.valid r = true := (validRune_eq r).trans hv
        have hb : (0 ≤ r ∧ r < 0xD800) ∨ (0xDFFF < r ∧ r ≤ 0x10FFFF) := of_decide_eq_true hv
        have h128 : 128 ≤ r := by omega
        obtain ⟨z0, z1, _⟩ := encode_facts r hv2 h128
        by_cases z2 : (Utf8.encode r).size = 2
        · exact ir_two tabs r w rfl (fun _ => rfl) (fun q hq => by
            have e : (tabs.extract 2 3).data.toList = [10] := by decide +kernel
            have hn : ((10 : UInt8) == q) = false := by
              rw [beq_eq_false_iff_ne]
              rintro rfl
              have : (10 : UInt8).toNat = 10 := rfl
              omega
            rw [e, Lib.indexByte, hn]
            rfl) h128 (by omega) hne hv2 z2
        · by_cases z3 : (Utf8.encode r).size = 3
          · exact ir_three tabs r w rfl (fun _ => rfl) h128 (by omega) hne hv2 z3
          · exact ir_four tabs r w rfl h128 (by omega) hne hv2 (by omega)
  · exact ir_ascii r w (by omega) (by omega) h

/-- Without the three: no byte of s is one of them. -/
def Clean (s : ByteArray) : Prop := ∀ b ∈ s.data.toList, keepB b = true

theorem clean_rune (s : ByteArray) (h : Clean s) (i : Nat) (hi : i < s.size) : ((Utf8.decode s i).1 : Int) ≠ 9 ∧ ((Utf8.decode s i).1 : Int) ≠ 10 ∧ ((Utf8.decode s i).1 : Int) ≠ 13 := by
  by_cases ha : (s[i]'hi).toNat < 128
  · rw [decode_ascii s i hi ha]
    have hm : s[i]'hi ∈ s.data.toList := Array.getElem_mem_toList (xs := s.data) hi
    have hk := h _ hm
    by_cases hn : ((s[i]'hi).toNat : Int) = 9 ∨ ((s[i]'hi).toNat : Int) = 10 ∨ ((s[i]'hi).toNat : Int) = 13
    · rw [keepB_no _ hn] at hk
      cases hk
    · simp only; omega
  · have := (decode_high s i hi (by omega)).1
    omega

set_option maxHeartbeats 8000000 in
set_option maxRecDepth 1000000 in
theorem ia_short (s : ByteArray) (w : World) (h : Clean s) (h8 : s.size ≤ 8) :
    Calls Try.prog 44 #[.string s, .string tabs] w fun e w' => e = .returned (.int .i64 (-1)) ∧ Below w.heap.size w w' := by
  have HC := Aside0.mk h
  have H8 := Aside0.mk h8
  have h8z : decide ((8 : Int) < (s.size : Int)) = false := decide_eq_false (by omega)
  have hIR := Aside0.mk ir_all
  obtain ⟨cs, hcs⟩ : ∃ cs, tabs = cs := ⟨_, rfl⟩
  have hemp : cs.toList.isEmpty = false := by rw [← hcs]; decide +kernel
  have hz : cs.size = 3 := by rw [← hcs]; rfl
  rw [hcs] at hIR ⊢
  clear hcs h h8
  have e50 : ∀ w : World, Calls Try.prog 50 #[.int .i64 (s.size : Int)] w fun e w' => e = .returned (.bool false) ∧ w' = w := by
    intro w
    have := Try.strings_shouldUseASCIISet (s.size : Int) w
    rw [h8z] at this
    exact this
  have E50 := Aside0.mk e50
  clear e50
  go_enter Try.func44, Try.ntmps44
  go_wp2_with fail
  refine (E50.out _).mono ?_
  rintro e w' ⟨rfl, rfl⟩
  go_wp2_with fail
  go_loopg [] s.size (fun f wr => ∃ (pos : Nat), Aside0 (wr.heap[w'.heap.size]? = some (.stringIter s pos)) ∧ Aside0 (Below w'.heap.size w' wr) ∧ Aside0 (s.size ≤ pos + f))
  case atStart => exact ⟨0, ⟨World.iter_heap w' s 0⟩, ⟨(Below.refl _ w').alloc (Nat.le_refl _) _⟩, ⟨by omega⟩⟩
  case round =>
    obtain ⟨pos, HI, HB, HP⟩ := hrel
    by_cases hp : pos < s.size
    · cases gk with
      | zero => exact absurd hp (by have := HP.out; omega)
      | succ f =>
        have hnx : ∀ ty, (Instr.next (.pointer (some ⟨w'.heap.size, 0, none⟩)) true ty).run Try.prog wr = _ := fun ty => Lib.run_next_any_at wr w'.heap.size s pos ty HI.out hp
        have hwd := width_pos s pos hp
        have hcl := clean_rune s HC.out pos hp
        have hle := decode_le s pos
        obtain ⟨c, hc⟩ : ∃ c : Nat, (Utf8.decode s pos).1 = c := ⟨_, rfl⟩
        obtain ⟨p', hp'⟩ : ∃ p' : Nat, pos + (Utf8.decode s pos).2 = p' := ⟨_, rfl⟩
        have HI2 := Aside0.mk (Lib.iterAt_heap wr w'.heap.size s pos p' HI.out)
        have HB2 := Aside0.mk (Lib.below_iterAt HB.out (k := w'.heap.size) (Nat.le_refl _) s p')
        rw [hc, hp'] at hnx
        rw [hc] at hcl hle
        have HP2 : Aside0 (s.size ≤ p' + f) := ⟨by have := HP.out; omega⟩
        have HR := Aside0.mk (fun w => hIR.out (c : Int) w (by omega) (by omega) hcl)
        clear hc hp' hwd HI HB HP hcl hle hIR
        obtain ⟨w2, hw2⟩ : ∃ w2, wr.iterAt w'.heap.size s p' = w2 := ⟨_, rfl⟩
        rw [hw2] at hnx HI2 HB2
        clear hw2
        go_wp2_with fail
        refine (HR.out _).mono ?_
        rintro e w3 ⟨rfl, hb3⟩
        have HI3 : Aside0 (w3.heap[w'.heap.size]? = some (.stringIter s p')) := ⟨(hb3.block _ (Array.getElem?_eq_some_iff.1 HI2.out).1).trans HI2.out⟩
        have HB3 := Aside0.mk (below_then HB2.out HB2.out.size hb3)
        clear hb3 HI2 HB2 HR
        go_wp2
        go_roundg f
        case measure => omega
        case rel => exact ⟨p', HI3, HB3, HP2⟩
    · have hnx : ∀ ty, (Instr.next (.pointer (some ⟨w'.heap.size, 0, none⟩)) true ty).run Try.prog wr = _ := fun ty => Lib.run_next_end_at wr w'.heap.size s pos ty HI.out hp
      go_wp2
      go_ret
      exact ⟨rfl, HB.out⟩

theorem zero64 : ∀ w, (zeroValue 64).run Try.prog w = .ok (.agg (Array.replicate 256 (.bool false))) w := fun w => by kernel_rfl

theorem contains_tabs (b : UInt8) (h : keepB b = true) : tabs.data.toList.contains b = false := by
  have key : ∀ b : Fin 256, keepB (UInt8.ofNat b.val) = true → tabs.data.toList.contains (UInt8.ofNat b.val) = false := by decide +kernel
  have := key ⟨b.toNat, b.toNat_lt⟩
  rw [UInt8.ofNat_toNat] at this
  exact this h

theorem ia_calls (s : ByteArray) (w : World) (h : Clean s) (hs : s.size ≤ 1000000) :
    Calls Try.prog 44 #[.string s, .string tabs] w fun e w' => e = .returned (.int .i64 (-1)) ∧ Below w.heap.size w w' := by
  by_cases h8 : s.size ≤ 8
  · exact ia_short s w h h8
  · have W := Try.strings_IndexAny_long zero64 s tabs w (by decide) (by omega) (by omega) (by decide) (by
      intro j b hb
      have hm := List.mem_of_getElem? hb
      have e : tabs.data.toList = [9, 13, 10] := rfl
      rw [e] at hm
      simp at hm
      rcases hm with rfl | rfl | rfl <;> decide)
    have e : Lib.indexAny s.data.toList tabs.data.toList = -1 := Lib.indexAny_none (fun j b _ hb => contains_tabs b (h b (List.mem_of_getElem? hb)))
    rw [e] at W
    exact W.mono fun e w' ⟨he, hw⟩ => ⟨he, hw ▸ ((Below.refl _ w).alloc (Nat.le_refl _) _).alloc (by simp) _⟩

set_option maxHeartbeats 4000000 in
set_option maxRecDepth 1000000 in
theorem ca_calls (s : ByteArray) (w : World) (h : Clean s) (hs : s.size ≤ 1000000) :
    Calls Try.prog 34 #[.string s, .string tabs] w fun e w' => e = .returned (.bool false) ∧ Below w.heap.size w w' := by
  have HI := Aside0.mk (ia_calls s w h hs)
  clear h hs
  obtain ⟨cs, hcs⟩ : ∃ cs, tabs = cs := ⟨_, rfl⟩
  rw [hcs] at HI ⊢
  clear hcs
  go_enter Try.func34, Try.ntmps34
  go_wp2_with fail
  refine HI.out.mono ?_
  rintro e w1 ⟨rfl, hb⟩
  go_wp2
  go_ret
  exact ⟨rfl, hb⟩
#print axioms ca_calls
end Go.Proofs.Ytgmhfeldahanpaa.A
