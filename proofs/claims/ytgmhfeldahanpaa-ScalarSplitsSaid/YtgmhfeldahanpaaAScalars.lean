/-
  The walks of scalar.Scalars and scalar.Plain: a range over a string.
-/
import Derived.Test.YtgmhfeldahanpaaPScalarReadsx1
import Derived.Test.YtgmhfeldahanpaaAPlain
import Derived.Lib.OthersKept
import Derived.Outline
namespace Go.Proofs.Ytgmhfeldahanpaa.A
open Go.RowKit Go.Proofs.YtgmhfeldahanpaaW.PrintWords Go.Proofs.YtgmhfeldahanpaaW.PrintLast Go.Proofs.YtgmhfeldahanpaaW.PrintMore
set_option linter.unusedVariables false
set_option linter.unusedSimpArgs false

theorem info21 : (Try.prog.info? 21).map (fun i => (i.zero, i.size, i.bytes)) = some (some (.int .i32 0), 1, 4) := by kernel_rfl


/-- An own row of numbers stays while an iterator moves on. -/
theorem R_iterAt {d : Kd Int} {e base : Nat} {B : Nat} {w : World} {v : Value} {xs : List Int} (h : d.R e w base (fun k => k ≠ B) v xs) (s : ByteArray) (pos : Nat) : d.R e (w.iterAt B s pos) base (fun k => k ≠ B) v xs :=
  Kd.R_step h (fun k hk _ => Lib.iterAt_other w B k s pos hk)

set_option maxHeartbeats 4000000 in
set_option maxRecDepth 1000000 in
theorem scalars_calls (s : ByteArray) (w : World) (hs : s.size ≤ 1000000) :
    Calls Try.prog 10 #[.string s] w fun e w' => ∃ v : Value, e = .returned v ∧ Kd.R (Kd.int .i32) 21 w' w.heap.size (fun _ => True) v (runes s) ∧ Below w.heap.size w w' := by
  have HS := Aside0.mk hs
  clear hs
  go_enter Try.func10, Try.ntmps10
  go_wp2
  go_loopg [3] s.size (fun f v wr => ∃ (pos : Nat) (acc : List Int), Aside0 (Kd.R (Kd.int .i32) 21 wr w.heap.size (fun k => k ≠ w.heap.size) v acc) ∧ Aside0 (wr.heap[w.heap.size]? = some (.stringIter s pos)) ∧ Aside0 (Below w.heap.size w wr) ∧ Aside0 (acc ++ runesFrom s f pos = runes s) ∧ Aside0 (s.size ≤ pos + f) ∧ Aside0 (acc.length + f ≤ s.size))
  case atStart => exact ⟨0, [], ⟨Kd.R_nil _ _ _ _ _⟩, ⟨World.iter_heap w s 0⟩, ⟨(Below.refl _ w).alloc (Nat.le_refl _) _⟩, ⟨rfl⟩, ⟨by omega⟩, ⟨by simp⟩⟩
  case round =>
    obtain ⟨pos, acc, HR, HI, HB, HA, HP, HL⟩ := hrel
    by_cases hp : pos < s.size
    · cases gk with
      | zero => exact absurd hp (by have := HP.out; omega)
      | succ f =>
        have hnx : ∀ ty, (Instr.next (.pointer (some ⟨w.heap.size, 0, none⟩)) true ty).run Try.prog wr = _ := fun ty => Lib.run_next_any_at wr w.heap.size s pos ty HI.out hp
        obtain ⟨c, hc⟩ : ∃ c : Nat, (Utf8.decode s pos).1 = c := ⟨_, rfl⟩
        obtain ⟨p', hp'⟩ : ∃ p' : Nat, pos + (Utf8.decode s pos).2 = p' := ⟨_, rfl⟩
        have hwd := width_pos s pos hp
        have HR2 := Aside0.mk (R_iterAt HR.out s p')
        have HI2 := Aside0.mk (Lib.iterAt_heap wr w.heap.size s pos p' HI.out)
        have HB2 := Aside0.mk (Lib.below_iterAt HB.out (k := w.heap.size) (Nat.le_refl _) s p')
        rw [hc, hp'] at hnx
        have HA2 : Aside0 ((acc ++ [(c : Int)]) ++ runesFrom s f p' = runes s) := ⟨by rw [← HA.out, runesFrom, if_pos hp, hc, hp']; simp⟩
        have HP2 : Aside0 (s.size ≤ p' + f) := ⟨by have := HP.out; omega⟩
        have HL2 : Aside0 ((acc ++ [(c : Int)]).length + f ≤ s.size) := ⟨by have := HL.out; rw [List.length_append, List.length_singleton]; omega⟩
        clear hc hp' hwd HR HI HB HA HP
        obtain ⟨w2, hw2⟩ : ∃ w2, wr.iterAt w.heap.size s p' = w2 := ⟨_, rfl⟩
        rw [hw2] at hnx HR2 HI2 HB2
        clear hw2
        go_wp2_with (((with_reducible refine gate_builtin (b := .append) (xs := #[.tmp 11, .tmp 13]) rfl ?_); at_builtin; refine Kd.R_append (Kd.int .i32) (w0 := w) w.heap.size rfl (.tmp 11) (.tmp 13) 24 21 (.int .i32 0) 4 rfl Try.underlying24 info21 rfl (by decide) (by omega) u3 acc c [.int .i32 c] (fun k => k ≠ w.heap.size) (fun _ => False) rfl rfl ?aP (fun _ hk => hk.elim) ?aF ?aO ?aB ?aS ?aL ?_; (case aP => exact rfl); (case aB => exact HB2.out); (case aF => exact (fun k hk => by have := (Array.getElem?_eq_some_iff.1 HI2.out).1; omega)); (case aO => exact HR2.out); (case aS => exact HB2.out.size); (case aL => have := HL.out; have := HS.out; omega); intro v107 w5 ho hb hg hat; have HO := Aside0.mk ho; have HB5 := Aside0.mk hb; have HG := Aside0.mk hg; clear ho hb hg hat))
        go_roundg f
        case measure => omega
        case rel => exact ⟨p', _, HO, ⟨(HG.out.block _ (Array.getElem?_eq_some_iff.1 HI2.out).1 (fun e => HR2.out.1 _ e.symm rfl)).trans HI2.out⟩, HB5, HA2, HP2, HL2⟩
    · have hnx : ∀ ty, (Instr.next (.pointer (some ⟨w.heap.size, 0, none⟩)) true ty).run Try.prog wr = _ := fun ty => Lib.run_next_end_at wr w.heap.size s pos ty HI.out hp
      go_wp2
      go_ret
      have h := HA.out
      rw [runesFrom_end s _ pos hp, List.append_nil] at h
      subst h
      exact ⟨_, rfl, Kd.R_mono HR.out (fun _ _ => trivial), HB.out⟩

/-- Are all code points ASCII's? -/
def plainB (s : ByteArray) : Bool := (runes s).all fun x => decide (x < 128)

theorem plainB_no {s : ByteArray} {acc : List Int} {f pos : Nat} (h : acc ++ runesFrom s (f + 1) pos = runes s) (hp : pos < s.size) (hc : (128 : Int) ≤ (Utf8.decode s pos).1) : plainB s = false := by
  unfold plainB
  rw [← h, runesFrom, if_pos hp]
  rw [List.all_append, List.all_cons]
  have : decide (((Utf8.decode s pos).1 : Int) < 128) = false := decide_eq_false (by omega)
  rw [this]; simp
theorem plainB_yes {s : ByteArray} {acc : List Int} {f pos : Nat} (h : acc ++ runesFrom s f pos = runes s) (hp : ¬ pos < s.size) (ha : acc.all (fun x => decide (x < 128)) = true) : plainB s = true := by
  unfold plainB
  rw [← h, runesFrom_end s _ pos hp, List.append_nil]
  exact ha

set_option maxHeartbeats 4000000 in
set_option maxRecDepth 1000000 in
theorem plain_calls (s : ByteArray) (w : World) (hs : s.size ≤ 1000000) :
    Calls Try.prog 12 #[.string s] w fun e w' => e = .returned (.bool (plainB s)) ∧ Below w.heap.size w w' := by
  obtain ⟨b, hb⟩ : ∃ b, plainB s = b := ⟨_, rfl⟩
  rw [hb]
  have HP0 := Aside0.mk hb
  have HS := Aside0.mk hs
  clear hs hb
  go_enter Try.func12, Try.ntmps12
  go_wp2
  go_loopg [] s.size (fun f wr => ∃ (pos : Nat) (acc : List Int), Aside0 (wr.heap[w.heap.size]? = some (.stringIter s pos)) ∧ Aside0 (Below w.heap.size w wr) ∧ Aside0 (acc ++ runesFrom s f pos = runes s) ∧ Aside0 (s.size ≤ pos + f) ∧ Aside0 (acc.all (fun x => decide (x < 128)) = true))
  case atStart => exact ⟨0, [], ⟨World.iter_heap w s 0⟩, ⟨(Below.refl _ w).alloc (Nat.le_refl _) _⟩, ⟨rfl⟩, ⟨by omega⟩, ⟨by simp⟩⟩
  case round =>
    obtain ⟨pos, acc, HI, HB, HA, HP, HL⟩ := hrel
    by_cases hp : pos < s.size
    · cases gk with
      | zero => exact absurd hp (by have := HP.out; omega)
      | succ f =>
        have hnx : ∀ ty, (Instr.next (.pointer (some ⟨w.heap.size, 0, none⟩)) true ty).run Try.prog wr = _ := fun ty => Lib.run_next_any_at wr w.heap.size s pos ty HI.out hp
        have hno := plainB_no HA.out hp
        obtain ⟨c, hc⟩ : ∃ c : Nat, (Utf8.decode s pos).1 = c := ⟨_, rfl⟩
        obtain ⟨p', hp'⟩ : ∃ p' : Nat, pos + (Utf8.decode s pos).2 = p' := ⟨_, rfl⟩
        have hwd := width_pos s pos hp
        have HI2 := Aside0.mk (Lib.iterAt_heap wr w.heap.size s pos p' HI.out)
        have HB2 := Aside0.mk (Lib.below_iterAt HB.out (k := w.heap.size) (Nat.le_refl _) s p')
        rw [hc, hp'] at hnx
        rw [hc] at hno
        have HA2 : Aside0 ((acc ++ [(c : Int)]) ++ runesFrom s f p' = runes s) := ⟨by rw [← HA.out, runesFrom, if_pos hp, hc, hp']; simp⟩
        have HP2 : Aside0 (s.size ≤ p' + f) := ⟨by have := HP.out; omega⟩
        clear hc hp' hwd HI HB HA HP
        obtain ⟨w2, hw2⟩ : ∃ w2, wr.iterAt w.heap.size s p' = w2 := ⟨_, rfl⟩
        rw [hw2] at hnx HI2 HB2
        clear hw2
        by_cases hlt : (128 : Int) ≤ (c : Int)
        · have HF := Aside0.mk (hno hlt)
          clear hno
          go_wp2
          go_ret
          obtain rfl : b = false := HP0.out.symm.trans HF.out
          exact ⟨rfl, HB2.out⟩
        · have HL2 : Aside0 ((acc ++ [(c : Int)]).all (fun x => decide (x < 128)) = true) := ⟨by rw [List.all_append, HL.out]; simp; omega⟩
          clear hno HL
          go_wp2
          go_roundg f
          case measure => omega
          case rel => exact ⟨p', _, HI2, HB2, HA2, HP2, HL2⟩
    · have hnx : ∀ ty, (Instr.next (.pointer (some ⟨w.heap.size, 0, none⟩)) true ty).run Try.prog wr = _ := fun ty => Lib.run_next_end_at wr w.heap.size s pos ty HI.out hp
      have HF := Aside0.mk (plainB_yes HA.out hp HL.out)
      go_wp2
      go_ret
      obtain rfl : b = true := HP0.out.symm.trans HF.out
      exact ⟨rfl, HB.out⟩
#print axioms scalars_calls
#print axioms plain_calls
end Go.Proofs.Ytgmhfeldahanpaa.A
