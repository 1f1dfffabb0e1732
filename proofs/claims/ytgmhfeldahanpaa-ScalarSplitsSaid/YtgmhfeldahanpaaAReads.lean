/-
  What the reference's readers compute: the reference's 'next' is the model's own reading of UTF-8, its Scalars are the code points, its Plain asks the same.
-/
import Derived.Test.YtgmhfeldahanpaaPScalarReadsx3
import Derived.Test.YtgmhfeldahanpaaAScalars
namespace Go.Proofs.Ytgmhfeldahanpaa.A
open Go.RowKit Go.Proofs.YtgmhfeldahanpaaW.PrintWords Go.Proofs.YtgmhfeldahanpaaW.PrintLast Go.Proofs.YtgmhfeldahanpaaW.PrintMore
open Go.Proofs.Ytgmhfeldahanpaa.PScalarReads
set_option linter.unusedVariables false

theorem w64 {x : Int} (h0 : -9223372036854775808 ≤ x) (h1 : x ≤ 9223372036854775807) : wrap64 x = x := by unfold wrap64; omega
theorem w32 {x : Int} (h0 : -2147483648 ≤ x) (h1 : x ≤ 2147483647) : wrap32 x = x := by unfold wrap32; omega

theorem bt_get (s : ByteArray) (i : Nat) (h : i < s.size) : bt s (i : Int) = ((s.get! i).toNat : Int) := by
  have e : ((i : Int)).toNat = i := by omega
  unfold bt
  rw [dif_pos (by rw [e]; exact h)]
  have := get_at s i h
  rw [Nat.add_zero] at this
  rw [this]
  simp only [e]

theorem get_lt (s : ByteArray) (i : Nat) : (s.get! i).toNat < 256 := (s.get! i).toNat_lt

theorem is_eq (r : Int) : mantrapref01_Is.f r = some (decide (0 ≤ r ∧ r ≤ 1114111 ∧ (r < 55296 ∨ 57343 < r))) := by
  unfold mantrapref01_Is.f
  repeat' split
  all_goals (congr 1; rw [eq_comm])
  all_goals first | (rw [decide_eq_true_iff]; omega) | (rw [decide_eq_false_iff_not]; omega) | (congr 1; exact propext ⟨fun h => by omega, fun h => by omega⟩)

theorem l0_done (k : Nat) (s : ByteArray) (i n least r j : Int) (h : ¬ j < n) : mantrapref01_next.l0 (k + 1) s i n least r j = if r < least ∨ ¬ (0 ≤ r ∧ r ≤ 1114111 ∧ (r < 55296 ∨ 57343 < r)) then some (65533, 1) else some (r, n) := by
  simp only [mantrapref01_next.l0]
  rw [if_neg h, is_eq, Option.bind_some]
  by_cases c : r < least
  · rw [if_pos c, if_pos (.inl c)]
  · rw [if_neg c]
    by_cases d : 0 ≤ r ∧ r ≤ 1114111 ∧ (r < 55296 ∨ 57343 < r)
    · rw [if_pos (decide_eq_true d), if_neg (by rintro (h | h); exact c h; exact h d)]
    · rw [if_neg (by rw [decide_eq_true_iff]; exact d), if_pos (.inr d)]

theorem l0_bad (k : Nat) (s : ByteArray) (i j : Nat) (n least r : Int) (hs : s.size ≤ 1000000) (h : (j : Int) < n) (hi : i + j < s.size) (hb : (s.get! (i + j)).toNat < 128 ∨ 192 ≤ (s.get! (i + j)).toNat) : mantrapref01_next.l0 (k + 1) s i n least r j = some (65533, 1) := by
  have e : wrap64 ((i : Int) + (j : Int)) = ((i + j : Nat) : Int) := by rw [w64 (by omega) (by omega)]; omega
  simp only [mantrapref01_next.l0]
  rw [if_pos h, e, if_pos (by omega), if_pos (by omega), bt_get s _ hi]
  rcases hb with hb | hb
  · rw [if_pos (by omega)]
  · rw [if_neg (by omega), if_pos (by omega)]

theorem l0_good (k : Nat) (s : ByteArray) (i j : Nat) (n least r : Int) (hs : s.size ≤ 1000000) (h : (j : Int) < n) (hi : i + j < s.size) (hb : 128 ≤ (s.get! (i + j)).toNat ∧ (s.get! (i + j)).toNat < 192) (h0 : 0 ≤ r) (h1 : r ≤ 1000000) (hn : n ≤ 4) : mantrapref01_next.l0 (k + 1) s i n least r j = mantrapref01_next.l0 k s i n least (r * 64 + (s.get! (i + j)).toNat - 128) ((j + 1 : Nat) : Int) := by
  have e : wrap64 ((i : Int) + (j : Int)) = ((i + j : Nat) : Int) := by rw [w64 (by omega) (by omega)]; omega
  have hlt := get_lt s (i + j)
  simp only [mantrapref01_next.l0]
  rw [if_pos h, e, if_pos (by omega), if_pos (by omega), bt_get s _ hi, if_neg (by omega), if_neg (by omega)]
  rw [w64 (x := (j : Int) + 1) (by omega) (by omega), w32 (x := r * 64) (by omega) (by omega), w32 (x := ((s.get! (i + j)).toNat : Int)) (by omega) (by omega)]
  rw [w32 (x := r * 64 + ((s.get! (i + j)).toNat : Int)) (by omega) (by omega), w32 (by omega) (by omega)]
  rfl

theorem to_decode (s : ByteArray) (i : Nat) (h : i < s.size) {r : Int × Int} {d : Nat × Nat} (hd : Lib.decodeN (s.size - i) (s.get! i).toNat (s.get! (i + 1)).toNat (s.get! (i + 2)).toNat (s.get! (i + 3)).toNat = d) (hr : r = ((d.1 : Int), (d.2 : Int))) : r = (((Utf8.decode s i).1 : Int), ((Utf8.decode s i).2 : Int)) := by
  rw [Lib.decode_at, hd, hr]

/-- The head: behind the three tests. -/
theorem j5_short (k : Nat) (s : ByteArray) (i : Nat) (n : Nat) (least r : Int) (hs : s.size ≤ 1000000) (hi : i < s.size) (hn : n ≤ 4) (h : n = 0 ∨ s.size < i + n) : mantrapref01_next.j5 (k + 2) s i (n : Int) least r = some (65533, 1) := by
  simp only [mantrapref01_next.j5]
  by_cases h0 : n = 0
  · have z : (n : Int) = 0 := by omega
    rw [if_pos z]
    simp only [mantrapref01_next.j6]
    rw [if_pos trivial]
  · rw [if_neg (by omega), w64 (by omega) (by omega)]
    simp only [mantrapref01_next.j6]
    rw [if_pos (decide_eq_true (by omega))]

theorem j5_long (k : Nat) (s : ByteArray) (i : Nat) (n : Nat) (least r : Int) (hs : s.size ≤ 1000000) (hi : i < s.size) (hn : n ≤ 4) (h0 : n ≠ 0) (h : i + n ≤ s.size) : mantrapref01_next.j5 (k + 2) s i (n : Int) least r = mantrapref01_next.l0 k s i (n : Int) least r ((1 : Nat) : Int) := by
  simp only [mantrapref01_next.j5]
  rw [if_neg (by omega), w64 (by omega) (by omega)]
  simp only [mantrapref01_next.j6]
  rw [if_neg (by rw [decide_eq_true_iff]; omega)]
  rfl

theorem j0_s (k : Nat) (s : ByteArray) (i b n l r : Int) (x : Bool) : mantrapref01_next.j0 (k + 1) s i b n l r x = if x = true then mantrapref01_next.j1 k s i b 2 128 (wrap32 (wrap32 b - 192)) else mantrapref01_next.j1 k s i b n l r := rfl
theorem j1_s (k : Nat) (s : ByteArray) (i b n l r : Int) : mantrapref01_next.j1 (k + 1) s i b n l r = if b ≥ 224 then mantrapref01_next.j2 k s i b n l r (decide (b < 240)) else mantrapref01_next.j2 k s i b n l r false := rfl
theorem j2_s (k : Nat) (s : ByteArray) (i b n l r : Int) (x : Bool) : mantrapref01_next.j2 (k + 1) s i b n l r x = if x = true then mantrapref01_next.j3 k s i b 3 2048 (wrap32 (wrap32 b - 224)) else mantrapref01_next.j3 k s i b n l r := rfl
theorem j3_s (k : Nat) (s : ByteArray) (i b n l r : Int) : mantrapref01_next.j3 (k + 1) s i b n l r = if b ≥ 240 then mantrapref01_next.j4 k s i b n l r (decide (b < 248)) else mantrapref01_next.j4 k s i b n l r false := rfl
theorem j4_s (k : Nat) (s : ByteArray) (i b n l r : Int) (x : Bool) : mantrapref01_next.j4 (k + 1) s i b n l r x = if x = true then mantrapref01_next.j5 k s i 4 65536 (wrap32 (wrap32 b - 240)) else mantrapref01_next.j5 k s i n l r := rfl

theorem next_j5 (k : Nat) (s : ByteArray) (i : Nat) (hi : i < s.size) (h : 128 ≤ (s.get! i).toNat) : mantrapref01_next.f (k + 5) s i =
    if (s.get! i).toNat < 192 ∨ 248 ≤ (s.get! i).toNat then mantrapref01_next.j5 k s i 0 0 0
    else if (s.get! i).toNat < 224 then mantrapref01_next.j5 k s i 2 128 ((s.get! i).toNat - 192)
    else if (s.get! i).toNat < 240 then mantrapref01_next.j5 k s i 3 2048 ((s.get! i).toNat - 224)
    else mantrapref01_next.j5 k s i 4 65536 ((s.get! i).toNat - 240) := by
  have hlt := get_lt s i
  have e : ∀ d : Int, 0 ≤ d → d ≤ 240 → wrap32 (wrap32 (((s.get! i).toNat : Nat) : Int) - d) = ((s.get! i).toNat : Int) - d := fun d h0 h1 => by
    rw [w32 (x := ((s.get! i).toNat : Int)) (by omega) (by omega), w32 (by omega) (by omega)]
  unfold mantrapref01_next.f
  rw [if_pos (by omega), if_pos (by omega), bt_get s i hi, if_neg (by omega)]
  have e1 := e 192 (by omega) (by omega)
  have e2 := e 224 (by omega) (by omega)
  have e3 := e 240 (by omega) (by omega)
  clear e
  generalize (s.get! i).toNat = b at *
  have N : ¬ (false = true) := by simp
  by_cases c1 : b < 192
  · rw [if_pos (Or.inl c1), if_neg (show ¬ (b : Int) ≥ 192 by omega), j0_s, if_neg N, j1_s, if_neg (by omega), j2_s, if_neg N, j3_s, if_neg (by omega), j4_s, if_neg N]
  have g1 : (b : Int) ≥ 192 := by omega
  by_cases c2 : b < 224
  · have D : decide ((b : Int) < 224) = true := decide_eq_true (by omega)
    rw [if_neg (show ¬ (b < 192 ∨ 248 ≤ b) by omega), if_pos c2, if_pos g1, j0_s, if_pos D, j1_s, if_neg (by omega), j2_s, if_neg N, j3_s, if_neg (by omega), j4_s, if_neg N, e1]
  have D1 : ¬ decide ((b : Int) < 224) = true := by rw [decide_eq_true_iff]; omega
  have g2 : (b : Int) ≥ 224 := by omega
  by_cases c3 : b < 240
  · have D : decide ((b : Int) < 240) = true := decide_eq_true (by omega)
    rw [if_neg (show ¬ (b < 192 ∨ 248 ≤ b) by omega), if_neg c2, if_pos c3, if_pos g1, j0_s, if_neg D1, j1_s, if_pos g2, j2_s, if_pos D, j3_s, if_neg (by omega), j4_s, if_neg N, e2]
  have D2 : ¬ decide ((b : Int) < 240) = true := by rw [decide_eq_true_iff]; omega
  have g3 : (b : Int) ≥ 240 := by omega
  by_cases c4 : b < 248
  · have D : decide ((b : Int) < 248) = true := decide_eq_true (by omega)
    rw [if_neg (show ¬ (b < 192 ∨ 248 ≤ b) by omega), if_neg c2, if_neg c3, if_pos g1, j0_s, if_neg D1, j1_s, if_pos g2, j2_s, if_neg D2, j3_s, if_pos g3, j4_s, if_pos D, e3]
  · have D : ¬ decide ((b : Int) < 248) = true := by rw [decide_eq_true_iff]; omega
    rw [if_pos (show (b < 192 ∨ 248 ≤ b) by omega), if_pos g1, j0_s, if_neg D1, j1_s, if_pos g2, j2_s, if_neg D2, j3_s, if_pos g3, j4_s, if_neg D]

/-- The reference's reader is the model's own. -/
theorem next_eq (s : ByteArray) (i : Nat) (hs : s.size ≤ 1000000) (hi : i < s.size) : mantrapref01_next.f 11 s i = some (((Utf8.decode s i).1 : Int), ((Utf8.decode s i).2 : Int)) := by
  have hlt := get_lt s i
  have hlt1 := get_lt s (i + 1)
  have hlt2 := get_lt s (i + 2)
  have hlt3 := get_lt s (i + 3)
  have G : ∀ d : Nat × Nat, Lib.decodeN (s.size - i) (s.get! i).toNat (s.get! (i + 1)).toNat (s.get! (i + 2)).toNat (s.get! (i + 3)).toNat = d → some ((d.1 : Int), (d.2 : Int)) = some (((Utf8.decode s i).1 : Int), ((Utf8.decode s i).2 : Int)) := fun d hd => by rw [Lib.decode_at, hd]
  by_cases c0 : (s.get! i).toNat < 128
  · unfold mantrapref01_next.f
    rw [if_pos (by omega), if_pos (by omega), bt_get s i hi, if_pos (by omega), w32 (by omega) (by omega)]
    exact G ((s.get! i).toNat, 1) (by unfold Lib.decodeN; rw [if_pos c0])
  have B : some (((65533 : Int), (1 : Int))) = some ((((65533, 1) : Nat × Nat).1 : Int), (((65533, 1) : Nat × Nat).2 : Int)) := rfl
  rw [next_j5 6 s i hi (by omega)]
  by_cases c1 : (s.get! i).toNat < 192 ∨ 248 ≤ (s.get! i).toNat
  · rw [if_pos c1]
    have := j5_short 4 s i 0 0 0 hs hi (by omega) (.inl rfl)
    rw [show ((0 : Nat) : Int) = 0 from rfl] at this
    rw [this, B]
    refine G (65533, 1) ?_
    unfold Lib.decodeN
    rw [if_neg (by omega), if_neg (by omega), if_neg (by omega), if_neg (by omega)]
  rw [if_neg c1]
  by_cases c2 : (s.get! i).toNat < 224
  · rw [if_pos c2]
    by_cases hn : i + 2 ≤ s.size
    · have e := j5_long 4 s i 2 128 (((s.get! i).toNat : Int) - 192) hs hi (by omega) (by omega) hn
      rw [show ((2 : Nat) : Int) = 2 from rfl] at e
      rw [e]
      by_cases d1 : 128 ≤ (s.get! (i + 1)).toNat ∧ (s.get! (i + 1)).toNat < 192
      · rw [l0_good 3 s i 1 2 128 _ hs (by omega) (by omega) d1 (by omega) (by omega) (by omega), l0_done _ _ _ _ _ _ _ (by omega)]
        by_cases v : (((s.get! i).toNat : Int) - 192) * 64 + (s.get! (i + 1)).toNat - 128 < 128 ∨ ¬ (0 ≤ (((s.get! i).toNat : Int) - 192) * 64 + (s.get! (i + 1)).toNat - 128 ∧ (((s.get! i).toNat : Int) - 192) * 64 + (s.get! (i + 1)).toNat - 128 ≤ 1114111 ∧ ((((s.get! i).toNat : Int) - 192) * 64 + (s.get! (i + 1)).toNat - 128 < 55296 ∨ 57343 < (((s.get! i).toNat : Int) - 192) * 64 + (s.get! (i + 1)).toNat - 128))
        · rw [if_pos v, B]
          refine G (65533, 1) ?_
          unfold Lib.decodeN
          rw [if_neg (by omega), if_pos (by omega), if_neg (by omega)]
        · rw [if_neg v, ← G ((s.get! i).toNat % 32 * 64 + (s.get! (i + 1)).toNat % 64, 2) (by unfold Lib.decodeN; rw [if_neg (by omega), if_pos (by omega), if_pos (by omega)])]
          congr 2
          simp only
          omega
      · rw [l0_bad 3 s i 1 2 128 _ hs (by omega) (by omega) (by omega), B]
        refine G (65533, 1) ?_
        unfold Lib.decodeN
        rw [if_neg (by omega), if_neg (by omega), if_neg (by omega), if_neg (by omega)]
    · have e := j5_short 4 s i 2 128 (((s.get! i).toNat : Int) - 192) hs hi (by omega) (.inr (by omega))
      rw [show ((2 : Nat) : Int) = 2 from rfl] at e
      rw [e, B]
      refine G (65533, 1) ?_
      unfold Lib.decodeN
      rw [if_neg (by omega), if_neg (by omega), if_neg (by omega), if_neg (by omega)]
  rw [if_neg c2]
  by_cases c3 : (s.get! i).toNat < 240
  · rw [if_pos c3]
    by_cases hn : i + 3 ≤ s.size
    · have e := j5_long 4 s i 3 2048 (((s.get! i).toNat : Int) - 224) hs hi (by omega) (by omega) hn
      rw [show ((3 : Nat) : Int) = 3 from rfl] at e
      rw [e]
      by_cases d1 : 128 ≤ (s.get! (i + 1)).toNat ∧ (s.get! (i + 1)).toNat < 192
      · rw [l0_good 3 s i 1 3 2048 _ hs (by omega) (by omega) d1 (by omega) (by omega) (by omega)]
        by_cases d2 : 128 ≤ (s.get! (i + 2)).toNat ∧ (s.get! (i + 2)).toNat < 192
        · rw [l0_good 2 s i 2 3 2048 _ hs (by omega) (by omega) d2 (by omega) (by omega) (by omega), l0_done _ _ _ _ _ _ _ (by omega)]
          obtain ⟨r, hr⟩ : ∃ r : Int, r = ((((s.get! i).toNat : Int) - 224) * 64 + (s.get! (i + 1)).toNat - 128) * 64 + (s.get! (i + 2)).toNat - 128 := ⟨_, rfl⟩
          rw [← hr]
          by_cases v : r < 2048 ∨ ¬ (0 ≤ r ∧ r ≤ 1114111 ∧ (r < 55296 ∨ 57343 < r))
          · rw [if_pos v, B]
            refine G (65533, 1) ?_
            unfold Lib.decodeN
            rw [if_neg (by omega), if_neg (by omega), if_pos (by omega), if_neg (by omega)]
          · rw [if_neg v, ← G ((s.get! i).toNat % 16 * 4096 + (s.get! (i + 1)).toNat % 64 * 64 + (s.get! (i + 2)).toNat % 64, 3) (by unfold Lib.decodeN; rw [if_neg (by omega), if_neg (by omega), if_pos (by omega), if_pos (by omega)])]
            congr 2
            simp only
            omega
        · rw [l0_bad 2 s i 2 3 2048 _ hs (by omega) (by omega) (by omega), B]
          refine G (65533, 1) ?_
          unfold Lib.decodeN
          rw [if_neg (by omega), if_neg (by omega), if_neg (by omega), if_neg (by omega)]
      · rw [l0_bad 3 s i 1 3 2048 _ hs (by omega) (by omega) (by omega), B]
        refine G (65533, 1) ?_
        unfold Lib.decodeN
        rw [if_neg (by omega), if_neg (by omega), if_neg (by omega), if_neg (by omega)]
    · have e := j5_short 4 s i 3 2048 (((s.get! i).toNat : Int) - 224) hs hi (by omega) (.inr (by omega))
      rw [show ((3 : Nat) : Int) = 3 from rfl] at e
      rw [e, B]
      refine G (65533, 1) ?_
      unfold Lib.decodeN
      rw [if_neg (by omega), if_neg (by omega), if_neg (by omega), if_neg (by omega)]
  rw [if_neg c3]
  by_cases hn : i + 4 ≤ s.size
  · have e := j5_long 4 s i 4 65536 (((s.get! i).toNat : Int) - 240) hs hi (by omega) (by omega) hn
    rw [show ((4 : Nat) : Int) = 4 from rfl] at e
    rw [e]
    by_cases d1 : 128 ≤ (s.get! (i + 1)).toNat ∧ (s.get! (i + 1)).toNat < 192
    · rw [l0_good 3 s i 1 4 65536 _ hs (by omega) (by omega) d1 (by omega) (by omega) (by omega)]
      by_cases d2 : 128 ≤ (s.get! (i + 2)).toNat ∧ (s.get! (i + 2)).toNat < 192
      · rw [l0_good 2 s i 2 4 65536 _ hs (by omega) (by omega) d2 (by omega) (by omega) (by omega)]
        by_cases d3 : 128 ≤ (s.get! (i + 3)).toNat ∧ (s.get! (i + 3)).toNat < 192
        · rw [l0_good 1 s i 3 4 65536 _ hs (by omega) (by omega) d3 (by omega) (by omega) (by omega), l0_done _ _ _ _ _ _ _ (by omega)]
          obtain ⟨r, hr⟩ : ∃ r : Int, r = (((((s.get! i).toNat : Int) - 240) * 64 + (s.get! (i + 1)).toNat - 128) * 64 + (s.get! (i + 2)).toNat - 128) * 64 + (s.get! (i + 3)).toNat - 128 := ⟨_, rfl⟩
          rw [← hr]
          by_cases v : r < 65536 ∨ ¬ (0 ≤ r ∧ r ≤ 1114111 ∧ (r < 55296 ∨ 57343 < r))
          · rw [if_pos v, B]
            refine G (65533, 1) ?_
            unfold Lib.decodeN
            rw [if_neg (by omega), if_neg (by omega), if_neg (by omega), if_pos (by omega), if_neg (by omega)]
          · rw [if_neg v, ← G ((s.get! i).toNat % 8 * 262144 + (s.get! (i + 1)).toNat % 64 * 4096 + (s.get! (i + 2)).toNat % 64 * 64 + (s.get! (i + 3)).toNat % 64, 4) (by unfold Lib.decodeN; rw [if_neg (by omega), if_neg (by omega), if_neg (by omega), if_pos (by omega), if_pos (by omega)])]
            congr 2
            simp only
            omega
        · rw [l0_bad 1 s i 3 4 65536 _ hs (by omega) (by omega) (by omega), B]
          refine G (65533, 1) ?_
          unfold Lib.decodeN
          rw [if_neg (by omega), if_neg (by omega), if_neg (by omega), if_neg (by omega)]
      · rw [l0_bad 2 s i 2 4 65536 _ hs (by omega) (by omega) (by omega), B]
        refine G (65533, 1) ?_
        unfold Lib.decodeN
        rw [if_neg (by omega), if_neg (by omega), if_neg (by omega), if_neg (by omega)]
    · rw [l0_bad 3 s i 1 4 65536 _ hs (by omega) (by omega) (by omega), B]
      refine G (65533, 1) ?_
      unfold Lib.decodeN
      rw [if_neg (by omega), if_neg (by omega), if_neg (by omega), if_neg (by omega)]
  · have e := j5_short 4 s i 4 65536 (((s.get! i).toNat : Int) - 240) hs hi (by omega) (.inr (by omega))
    rw [show ((4 : Nat) : Int) = 4 from rfl] at e
    rw [e, B]
    refine G (65533, 1) ?_
    unfold Lib.decodeN
    rw [if_neg (by omega), if_neg (by omega), if_neg (by omega), if_neg (by omega)]

theorem LeO_le {α : Type} {g : Nat → Option α} (hg : ∀ k, LeO (g k) (g (k + 1))) {r : α} {k : Nat} (h : g k = some r) : ∀ m, k ≤ m → g m = some r := by
  intro m hm
  induction m with
  | zero => obtain rfl : k = 0 := by omega
            exact h
  | succ m ih =>
    by_cases e : k = m + 1
    · rw [← e]; exact h
    · exact hg m r (ih (by omega))

/-- The reference's Scalars, from a place on. -/
theorem scalars_from (s : ByteArray) (hs : s.size ≤ 1000000) : ∀ (f pos : Nat) (acc : List Int), s.size ≤ pos + f → acc.length ≤ pos → pos ≤ s.size + 4 → mantrapref01_Scalars.l0 (f + 12) s acc pos = some (acc ++ runesFrom s f pos) := by
  intro f
  induction f with
  | zero =>
    intro pos acc h hl hp
    simp only [mantrapref01_Scalars.l0]
    rw [if_neg (by omega), runesFrom, List.append_nil]
  | succ f ih =>
    intro pos acc h hl hp
    rw [mantrapref01_Scalars.l0, runesFrom]
    by_cases c : pos < s.size
    · have hn := LeO_le (fun k => mantrapref01_next.mono s pos k) (next_eq s pos hs c) (f + 12) (by omega)
      have hw := width_pos s pos c
      have h4 : (Utf8.decode s pos).2 ≤ 4 := by
        rw [Lib.decode_at]
        unfold Lib.decodeN
        repeat' split
        all_goals simp
      rw [if_pos (by omega), hn, Option.bind_some]
      simp only
      rw [if_pos (by omega), w64 (by omega) (by omega), if_pos c]
      have e : ((pos : Int) + ((Utf8.decode s pos).2 : Int)) = ((pos + (Utf8.decode s pos).2 : Nat) : Int) := by omega
      rw [e, ih _ _ (by omega) (by rw [List.length_append, List.length_singleton]; omega) (by omega)]
      simp
    · rw [if_neg (by omega), if_neg c, List.append_nil]

theorem ref_scalars (s : ByteArray) (hs : s.size ≤ 1000000) : ∃ k, mantrapref01_Scalars.f k s = some (runes s) :=
  ⟨s.size + 12, by unfold mantrapref01_Scalars.f; exact scalars_from s hs s.size 0 [] (by omega) (by simp) (by omega)⟩

/-- The reference's Plain, from a place on. -/
theorem plain_from (s : ByteArray) (hs : s.size ≤ 1000000) : ∀ (f pos : Nat), s.size ≤ pos + f → pos ≤ s.size → mantrapref01_Plain.l0 (f + 1) s pos = some ((runesFrom s f pos).all fun x => decide (x < 128)) := by
  intro f
  induction f with
  | zero =>
    intro pos h hp
    simp only [mantrapref01_Plain.l0]
    rw [if_neg (by omega)]
    rfl
  | succ f ih =>
    intro pos h hp
    rw [mantrapref01_Plain.l0, runesFrom]
    by_cases c : pos < s.size
    · have hg := get_at s pos c
      rw [Nat.add_zero] at hg
      rw [if_pos (by omega), if_pos (by omega), bt_get s pos c, if_pos c, List.all_cons]
      by_cases d : 128 ≤ (s.get! pos).toNat
      · have := (decode_high s pos c (by rw [← hg]; exact d)).1
        rw [if_pos (by omega), decide_eq_false (by omega)]
        rfl
      · have e := decode_ascii s pos c (by rw [← hg]; omega)
        rw [if_neg (by omega), w64 (by omega) (by omega), e]
        have := ih (pos + 1) (by omega) (by omega)
        rw [show ((pos : Int) + 1) = ((pos + 1 : Nat) : Int) from by omega, this, ← hg, decide_eq_true (by omega)]
        rfl
    · rw [if_neg (by omega), if_neg c]
      rfl

theorem ref_plain (s : ByteArray) (hs : s.size ≤ 1000000) : ∃ k, mantrapref01_Plain.f k s = some (plainB s) :=
  ⟨s.size + 1, by unfold mantrapref01_Plain.f; exact plain_from s hs s.size 0 (by omega) (by omega)⟩

/-- slices.Equal of a list with itself. -/
theorem equal_from (l : List Int) (hl : l.length ≤ 1000000) : ∀ (d i : Nat), l.length = i + d → slices_Equal_rune_rune.l0 (d + 1) l l l.length i = some true := by
  intro d
  induction d with
  | zero =>
    intro i h
    simp only [slices_Equal_rune_rune.l0]
    rw [if_neg (by omega)]
  | succ d ih =>
    intro i h
    rw [slices_Equal_rune_rune.l0]
    rw [if_pos (by omega), if_pos (by omega), if_pos (by omega), if_pos (by omega), if_pos rfl, w64 (by omega) (by omega)]
    exact ih (i + 1) (by omega)

theorem equal_self (l : List Int) (hl : l.length ≤ 1000000) : ∃ k, slices_Equal_rune_rune.f k l l = some true :=
  ⟨l.length + 1, by unfold slices_Equal_rune_rune.f; rw [if_pos rfl]; exact equal_from l hl l.length 0 (by omega)⟩

end Go.Proofs.Ytgmhfeldahanpaa.A
