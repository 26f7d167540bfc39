/- The plain laws for JournalBack. -/
import Derived.Test.YtknipijkpcbadaaGreatXFns
import Derived.Test.YtknipijkpcbadaaGreatGAppend
import Derived.KernelRfl
import Derived.Laws.Bits128
namespace Gx
open Go Gd
set_option linter.unusedVariables false
set_option linter.unusedSimpArgs false
end Gx
namespace Gx
open Go
theorem alive42 (M : Nat) : billinglaw42_alive (M + 64) = some true := by kernel_rfl
end Gx
namespace Gx
open Go Gd
set_option linter.unusedVariables false
set_option linter.unusedSimpArgs false
theorem wu64 (n : Int) : IntKind.wrap .u64 n = n % 18446744073709551616 := by
  simp [IntKind.wrap, IntKind.bits, IntKind.signed]
theorem wu8 (n : Int) : IntKind.wrap .u8 n = n % 256 := by
  simp [IntKind.wrap, IntKind.bits, IntKind.signed]
theorem wi64 {n : Int} (h0 : -9223372036854775808 ≤ n) (h1 : n ≤ 9223372036854775807) : IntKind.wrap .i64 n = n := by
  rw [IntKind.wrap_i64]; omega
theorem bits_u64 (x y : Nat) (hx : x < 2 ^ 64) (hy : y < 2 ^ 64) : Go.bits .and .u64 x y = ((x &&& y : Nat) : Int) ∧ Go.bits .or .u64 x y = ((x ||| y : Nat) : Int) ∧ Go.bits .xor .u64 x y = ((x ^^^ y : Nat) : Int) := by
  have ex : (BitVec.ofInt 64 (x : Int)).toNat = x := by rw [BitVec.toNat_ofInt]; omega
  have ey : (BitVec.ofInt 64 (y : Int)).toNat = y := by rw [BitVec.toNat_ofInt]; omega
  have ha : (x &&& y : Nat) < 2 ^ 64 := Nat.lt_of_le_of_lt Nat.and_le_left hx
  have ho : (x ||| y : Nat) < 2 ^ 64 := Nat.or_lt_two_pow hx hy
  have hx2 : (x ^^^ y : Nat) < 2 ^ 64 := Nat.xor_lt_two_pow hx hy
  refine ⟨?_, ?_, ?_⟩
  · show IntKind.u64.wrap ((BitVec.ofInt 64 (x : Int) &&& BitVec.ofInt 64 (y : Int)).toNat : Nat) = _
    rw [BitVec.toNat_and, ex, ey, wu64]; omega
  · show IntKind.u64.wrap ((BitVec.ofInt 64 (x : Int) ||| BitVec.ofInt 64 (y : Int)).toNat : Nat) = _
    rw [BitVec.toNat_or, ex, ey, wu64]; omega
  · show IntKind.u64.wrap ((BitVec.ofInt 64 (x : Int) ^^^ BitVec.ofInt 64 (y : Int)).toNat : Nat) = _
    rw [BitVec.toNat_xor, ex, ey, wu64]; omega
theorem bits_u8 (x y : Nat) (hx : x < 2 ^ 8) (hy : y < 2 ^ 8) : Go.bits .and .u8 x y = ((x &&& y : Nat) : Int) ∧ Go.bits .or .u8 x y = ((x ||| y : Nat) : Int) := by
  have ex : (BitVec.ofInt 8 (x : Int)).toNat = x := by rw [BitVec.toNat_ofInt]; omega
  have ey : (BitVec.ofInt 8 (y : Int)).toNat = y := by rw [BitVec.toNat_ofInt]; omega
  have ha : (x &&& y : Nat) < 2 ^ 8 := Nat.lt_of_le_of_lt Nat.and_le_left hx
  have ho : (x ||| y : Nat) < 2 ^ 8 := Nat.or_lt_two_pow hx hy
  refine ⟨?_, ?_⟩
  · show IntKind.u8.wrap ((BitVec.ofInt 8 (x : Int) &&& BitVec.ofInt 8 (y : Int)).toNat : Nat) = _
    rw [BitVec.toNat_and, ex, ey, wu8]; omega
  · show IntKind.u8.wrap ((BitVec.ofInt 8 (x : Int) ||| BitVec.ofInt 8 (y : Int)).toNat : Nat) = _
    rw [BitVec.toNat_or, ex, ey, wu8]; omega
theorem or128 (u : Nat) : Go.bits .or .u8 (IntKind.wrap .u8 (u : Int)) 128 = ((128 + u % 128 : Nat) : Int) := by
  have h0 : ∀ y : Nat, y < 128 → (128 ||| y : Nat) = 128 + y := fun y hy => (Nat.two_pow_add_eq_or_of_lt (i := 7) (b := y) hy 1).symm
  have h : ∀ x, x < 256 → (x ||| 128 : Nat) = 128 + x % 128 := fun x hx => by
    by_cases hlt : x < 128
    · rw [Nat.or_comm, h0 x hlt, Nat.mod_eq_of_lt hlt]
    · obtain ⟨y, rfl⟩ : ∃ y, x = 128 + y := ⟨x - 128, by omega⟩
      rw [← h0 y (by omega), Nat.or_comm 128 y, Nat.or_assoc, Nat.or_self, Nat.or_comm, h0 y (by omega)]
      omega
  rw [wu8, show ((u : Int) % 256) = ((u % 256 : Nat) : Int) by omega, show (128 : Int) = ((128 : Nat) : Int) from rfl, (bits_u8 (u % 256) 128 (by omega) (by omega)).2, h _ (by omega)]
  omega
theorem and127 {x : Int} (h0 : 0 ≤ x) (h1 : x < 256) : Go.bits .and .u8 x 127 = x % 128 := by
  have h : ∀ x, x < 256 → (x &&& 127 : Nat) = x % 128 := fun x _ => Nat.and_two_pow_sub_one_eq_mod x 7
  obtain ⟨n, rfl⟩ : ∃ n : Nat, x = n := ⟨x.toNat, by omega⟩
  rw [show (127 : Int) = ((127 : Nat) : Int) from rfl, (bits_u8 n 127 (by omega) (by omega)).1, h _ (by omega)]
  omega
theorem xor_i64 (x y : Int) (hx0 : -9223372036854775808 ≤ x) (hx : x ≤ 9223372036854775807) : Go.bits .xor .i64 x 0 = x ∧ Go.bits .xor .i64 x (-1) = -x - 1 := by
  have e0 : BitVec.ofInt 64 0 = 0#64 := by decide
  have e1 : BitVec.ofInt 64 (-1) = BitVec.allOnes 64 := by decide
  refine ⟨?_, ?_⟩
  · show IntKind.i64.wrap ((BitVec.ofInt 64 x ^^^ BitVec.ofInt 64 0).toNat : Nat) = _
    rw [e0, BitVec.xor_zero, BitVec.toNat_ofInt, IntKind.wrap_i64]; omega
  · show IntKind.i64.wrap ((BitVec.ofInt 64 x ^^^ BitVec.ofInt 64 (-1)).toNat : Nat) = _
    rw [e1, BitVec.xor_allOnes, BitVec.toNat_not, BitVec.toNat_ofInt, IntKind.wrap_i64]; omega
theorem xor_ones (u : Nat) (h : u < 2 ^ 64) : (u ^^^ 18446744073709551615 : Nat) = 18446744073709551615 - u := by
  have := congrArg BitVec.toNat (BitVec.xor_allOnes (x := BitVec.ofNat 64 u))
  rw [BitVec.toNat_xor, BitVec.toNat_not, BitVec.toNat_ofNat, BitVec.toNat_allOnes, Nat.mod_eq_of_lt h] at this
  simpa using this
def zig (x : Int) : Nat := if x < 0 then (2 * (-(x + 1)) + 1).toNat else (2 * x).toNat
def unz (u : Nat) : Int := if u % 2 = 0 then ((u / 2 : Nat) : Int) else -((u / 2 : Nat) : Int) - 1
def i64B (x : Int) : Prop := -9223372036854775808 ≤ x ∧ x ≤ 9223372036854775807
theorem zig_lt {x : Int} (h : i64B x) : zig x < 2 ^ 64 := by
  obtain ⟨h0, h1⟩ := h
  unfold zig; split <;> omega
theorem unz_zig {x : Int} : unz (zig x) = x := by
  unfold unz zig
  split <;> split <;> omega
theorem zig_unz (u : Nat) : zig (unz u) = u := by
  unfold unz zig
  split <;> split <;> omega
theorem unz_i64 {u : Nat} (h : u < 2 ^ 64) : i64B (unz u) := by
  unfold unz i64B; split <;> omega
theorem zigzag_p (N : Nat) {x : Int} (h : i64B x) : codec_zigzag N x = some (zig x : Int) := by
  obtain ⟨h0, h1⟩ := h
  have e1 : shlW .u64 (IntKind.wrap .u64 x) 1 = some (((2 * x) % 18446744073709551616 : Int)) := by
    simp only [shlW]
    rw [if_neg (by omega), wu64, wu64]
    simp only [IntKind.bits]
    congr 1
    have : (2 : Int) ^ min (1 : Int).toNat 64 = 2 := by decide
    rw [this]; omega
  have e2 : shrW .i64 x 63 = some (if x < 0 then -1 else 0) := by
    simp only [shrW]
    rw [if_neg (by omega)]
    congr 1
    have : (2 : Int) ^ min (63 : Int).toNat IntKind.i64.bits = 9223372036854775808 := by decide
    rw [this, Int.fdiv_eq_ediv_of_nonneg _ (by omega)]
    split <;> omega
  unfold codec_zigzag
  rw [e1, Option.bind_some, e2, Option.bind_some]
  congr 1
  unfold zig
  split
  · rw [wu64, show ((-1 : Int) % 18446744073709551616) = ((18446744073709551615 : Nat) : Int) by decide, show ((2 * x) % 18446744073709551616 : Int) = (((2 * x) % 18446744073709551616).toNat : Nat) by omega,
      (bits_u64 _ _ (by omega) (by omega)).2.2, xor_ones _ (by omega)]
    omega
  · rw [wu64, show ((0 : Int) % 18446744073709551616) = ((0 : Nat) : Int) by decide, show ((2 * x) % 18446744073709551616 : Int) = (((2 * x) % 18446744073709551616).toNat : Nat) by omega,
      (bits_u64 _ _ (by omega) (by omega)).2.2, Nat.xor_zero]
    omega
theorem back_p (N : Nat) {u : Nat} (h : u < 2 ^ 64) : codec_back N (u : Int) = some (unz u) := by
  have e1 : shrW .u64 (u : Int) 1 = some ((u / 2 : Nat) : Int) := by
    simp only [shrW]
    rw [if_neg (by omega)]
    congr 1
    have : (2 : Int) ^ min (1 : Int).toNat IntKind.u64.bits = 2 := by decide
    rw [this, Int.fdiv_eq_ediv_of_nonneg _ (by omega)]; omega
  unfold codec_back
  rw [e1, Option.bind_some]
  congr 1
  have e2 : Go.bits .and .u64 (u : Int) 1 = ((u % 2 : Nat) : Int) := by
    rw [show (1 : Int) = ((1 : Nat) : Int) from rfl, (bits_u64 u 1 h (by omega)).1, Nat.and_one_is_mod]
  rw [e2, wi64 (n := ((u / 2 : Nat) : Int)) (by omega) (by omega), wi64 (n := ((u % 2 : Nat) : Int)) (by omega) (by omega)]
  unfold unz
  split
  · rename_i h0
    rw [h0, show IntKind.wrap .i64 (0 - ((0 : Nat) : Int)) = 0 by decide]
    exact (xor_i64 _ 0 (by omega) (by omega)).1
  · rename_i h0
    have : u % 2 = 1 := by omega
    rw [this, show IntKind.wrap .i64 (0 - ((1 : Nat) : Int)) = -1 by decide]
    exact (xor_i64 _ 0 (by omega) (by omega)).2
end Gx
namespace Gx
open Go Gd
set_option linter.unusedVariables false
set_option linter.unusedSimpArgs false
def vb : Nat → Nat → List Int
  | 0, _ => []
  | k + 1, u => if u < 128 then [(u : Int)] else ((128 + u % 128 : Nat) : Int) :: vb k (u / 128)
def isB (l : List Int) : Prop := ∀ b ∈ l, 0 ≤ b ∧ b < 256
theorem isB_append {l m : List Int} (h : isB l) (h2 : isB m) : isB (l ++ m) := fun b hb => (List.mem_append.1 hb).elim (h b) (h2 b)
theorem vb_len : ∀ (k u : Nat), (vb k u).length ≤ k
  | 0, u => Nat.le_refl _
  | k + 1, u => by
    simp only [vb]
    split
    · simp
    · simp [vb_len k]
theorem vb_B : ∀ (k u : Nat), isB (vb k u)
  | 0, u => fun b hb => by simp [vb] at hb
  | k + 1, u => by
    simp only [vb]
    split
    · intro b hb
      simp at hb; omega
    · intro b hb
      rcases List.mem_cons.1 hb with rfl | hb
      · omega
      · exact vb_B k _ b hb
theorem app_few {α : Type} {xs ys : List α} (h : xs.length + ys.length ≤ 100000) : app 1 xs ys = some (xs ++ ys) := by
  unfold app
  rw [if_pos (by omega)]
theorem addLoop (N : Nat) : ∀ (k u : Nat) (m : List Int) (fuel : Nat), 0 < k → u < 128 ^ k → k < fuel → u < 2 ^ 64 → m.length + k ≤ 100000 →
    ((loopN (codec_add_l1 N) fuel ((u : Int), m)).bind fun (v6, v7) => (app 1 v7 ([(IntKind.wrap .u8 v6)] : (List Int))).bind fun q8 => some q8) = some (m ++ vb k u)
  | 0, u, m, fuel, h0, _, _, _, _ => by omega
  | k + 1, u, m, fuel, _, h, hf, h64, hm => by
    obtain ⟨f, rfl⟩ : ∃ f, fuel = f + 1 := ⟨fuel - 1, by omega⟩
    simp only [loopN, codec_add_l1]
    by_cases hu : u < 128
    · rw [show decide ((u : Int) ≥ 128) = false by simp; omega]
      simp only [Bool.false_eq_true, if_false, Option.bind_some, vb, if_pos hu]
      rw [wu8, show ((u : Int) % 256) = (u : Int) by omega, app_few (by simp; omega)]
      rfl
    · rw [show decide ((u : Int) ≥ 128) = true by simp; omega]
      have es : shrW .u64 (u : Int) 7 = some ((u / 128 : Nat) : Int) := by
        simp only [shrW]
        rw [if_neg (by omega)]
        congr 1
        have : (2 : Int) ^ min (7 : Int).toNat IntKind.u64.bits = 128 := by decide
        rw [this, Int.fdiv_eq_ediv_of_nonneg _ (by omega)]; omega
      have hk : 0 < k := by
        rcases Nat.eq_zero_or_pos k with h0 | h0
        · subst h0; simp at h; omega
        · exact h0
      simp only [if_true, vb, if_neg hu]
      rw [app_few (by simp; omega), Option.bind_some, es, Option.bind_some, Option.bind_some, or128]
      have := addLoop N k (u / 128) (m ++ [((128 + u % 128 : Nat) : Int)]) f hk (by rw [Nat.pow_succ] at h; omega) (by omega) (by omega) (by simp; omega)
      simpa using this
def vz (x : Int) : List Int := vb 10 (zig x)
theorem vz_len (x : Int) : (vz x).length ≤ 10 := vb_len _ _
theorem vz_B (x : Int) : isB (vz x) := vb_B _ _
theorem zig_pow {x : Int} (h : i64B x) : zig x < 128 ^ 10 := by
  have := zig_lt h
  have e : (128 : Nat) ^ 10 = 1180591620717411303424 := by decide
  omega
theorem add_p {N : Nat} (hN : 1000 ≤ N) {x : Int} (h : i64B x) {m : List Int} (hm : m.length ≤ 10000) : codec_add N x m = some (m ++ vz x) := by
  unfold codec_add
  rw [zigzag_p N h, Option.bind_some]
  exact addLoop N 10 (zig x) m N (by omega) (zig_pow h) (by omega) (zig_lt h) (by omega)
theorem grown_p (N : Nat) {m : List Int} (hm : m.length ≤ 10000) {k : Int} (h0 : 0 ≤ k) (h1 : k ≤ 10000) : codec_grown N m k = some m := by
  unfold codec_grown
  have e : mkL 1 (List.length m : Int) (IntKind.wrap .i64 ((List.length m : Int) + k)) (0 : Int) = some (List.replicate m.length 0) := by
    unfold mkL
    rw [wi64 (by omega) (by omega), if_pos (by omega)]
    simp
  rw [e, Option.bind_some]
  unfold copyL
  have : Nat.min m.length (List.replicate m.length (0 : Int)).length = m.length := by rw [List.length_replicate]; exact Nat.min_self _
  rw [this]
  simp
theorem putNumber_p {N : Nat} (hN : 1000 ≤ N) {x : Int} (h : i64B x) {m : List Int} (hm : m.length ≤ 10000) : codec_PutNumber N m x = some (m ++ vz x) := by
  unfold codec_PutNumber
  rw [grown_p N hm (by omega) (by omega), Option.bind_some, add_p hN h hm]
  rfl
theorem putNumber_p2 {N : Nat} (hN : 1000 ≤ N) {x : Int} (h : i64B x) {m : List Int} (hm : m.length ≤ 10000) : codec_PutNumber_2 N m x = some (m ++ vz x) := by
  unfold codec_PutNumber_2
  rw [grown_p N hm (by omega) (by omega), Option.bind_some, add_p hN h hm]
  rfl
theorem len_i64 {α : Type} {l : List α} (h : l.length ≤ 10000) : i64B (l.length : Int) := ⟨by omega, by omega⟩
theorem putText_p {N : Nat} (hN : 1000 ≤ N) {s : Str} (h : s.length ≤ 1000) {m : List Int} (hm : m.length ≤ 9000) : codec_PutText N m s = some (m ++ vz (s.length : Int) ++ sbytes s) := by
  unfold codec_PutText
  have hl := vz_len (s.length : Int)
  rw [wi64 (by omega) (by omega), grown_p N (by omega) (by omega) (by omega), Option.bind_some, add_p hN (len_i64 (by omega)) (by omega), Option.bind_some, app_few (by simp [sbytes]; omega)]
  rfl
def encR (r : ApiRequest) : List Int := [r.Session, r.Seq, r.Kind, r.At, r.Sub, r.Usage].foldl (fun m x => m ++ vz x) [] ++ vz (r.B.length : Int) ++ sbytes r.B ++ vz r.Used ++ vz r.Ask
def okR6 (r : ApiRequest) : Prop := i64B r.Session ∧ i64B r.Seq ∧ i64B r.Kind ∧ i64B r.At ∧ i64B r.Sub ∧ i64B r.Usage ∧ i64B r.Used ∧ i64B r.Ask ∧ r.B.length ≤ 1000
theorem encR_eq (r : ApiRequest) : encR r = vz r.Session ++ vz r.Seq ++ vz r.Kind ++ vz r.At ++ vz r.Sub ++ vz r.Usage ++ vz (r.B.length : Int) ++ sbytes r.B ++ vz r.Used ++ vz r.Ask := by
  unfold encR; simp
theorem encLoop {N : Nat} (hN : 1000 ≤ N) {r : ApiRequest} (h : okR6 r) : loopN (journal_Encode_l1 N r) N (0, ([] : List Int)) = some ([r.Session, r.Seq, r.Kind, r.At, r.Sub, r.Usage].foldl (fun m x => m ++ vz x) []) := by
  obtain ⟨h1, h2, h3, h4, h5, h6, h7, h8, h9⟩ := h
  have l1 := vz_len r.Session; have l2 := vz_len r.Seq; have l3 := vz_len r.Kind; have l4 := vz_len r.At; have l5 := vz_len r.Sub; have l6 := vz_len r.Usage
  have step : ∀ (i : Nat) (x : Int) (m : List Int) (f : Nat), [r.Session, r.Seq, r.Kind, r.At, r.Sub, r.Usage][i]? = some x → i64B x → m.length ≤ 10000 → loopN (journal_Encode_l1 N r) (f + 1) ((i : Int), m) = loopN (journal_Encode_l1 N r) f (((i + 1 : Nat) : Int), m ++ vz x) := by
    intro i x m f hx hxB hm
    have hi : i < 6 := by have := (List.getElem?_eq_some_iff.1 hx).1; simpa using this
    conv => lhs; unfold loopN
    simp only [journal_Encode_l1]
    rw [if_pos (by simp; omega)]
    have hix : idx [r.Session, r.Seq, r.Kind, r.At, r.Sub, r.Usage] (i : Int) = some x := by
      unfold idx; rw [if_pos (by omega)]; simpa using hx
    rw [hix, Option.bind_some, putNumber_p hN hxB hm, Option.bind_some, wi64 (by omega) (by omega)]
    rfl
  obtain ⟨f, rfl⟩ : ∃ f, N = f + 7 := ⟨N - 7, by omega⟩
  have e0 := step 0 r.Session [] (f + 6) rfl h1 (by simp)
  have e1 := step 1 r.Seq (vz r.Session) (f + 5) rfl h2 (by omega)
  have e2 := step 2 r.Kind (vz r.Session ++ vz r.Seq) (f + 4) rfl h3 (by simp; omega)
  have e3 := step 3 r.At (vz r.Session ++ vz r.Seq ++ vz r.Kind) (f + 3) rfl h4 (by simp; omega)
  have e4 := step 4 r.Sub (vz r.Session ++ vz r.Seq ++ vz r.Kind ++ vz r.At) (f + 2) rfl h5 (by simp; omega)
  have e5 := step 5 r.Usage (vz r.Session ++ vz r.Seq ++ vz r.Kind ++ vz r.At ++ vz r.Sub) (f + 1) rfl h6 (by simp; omega)
  refine (e0.trans ?_)
  rw [List.nil_append]
  refine e1.trans (e2.trans (e3.trans (e4.trans (e5.trans ?_))))
  conv => lhs; unfold loopN
  simp only [journal_Encode_l1]
  rw [if_neg (by simp)]
  simp
theorem encode_p {N : Nat} (hN : 1000 ≤ N) {r : ApiRequest} (h : okR6 r) : journal_Encode N r = some (encR r) := by
  have hl := encLoop hN h
  obtain ⟨h1, h2, h3, h4, h5, h6, h7, h8, h9⟩ := h
  have l1 := vz_len r.Session; have l2 := vz_len r.Seq; have l3 := vz_len r.Kind; have l4 := vz_len r.At; have l5 := vz_len r.Sub; have l6 := vz_len r.Usage
  have l7 := vz_len (r.B.length : Int); have l8 := vz_len r.Used
  unfold journal_Encode
  rw [hl, Option.bind_some, putText_p hN h9 (by simp; omega), Option.bind_some, putNumber_p2 hN h7 (by simp [sbytes]; omega), Option.bind_some, putNumber_p hN h8 (by simp [sbytes]; omega), Option.bind_some]
  rfl
end Gx
namespace Gx
open Go Gd
set_option linter.unusedVariables false
set_option linter.unusedSimpArgs false
def sc : Nat → List Int → Int × Nat × List Int
  | _, [] => (2, 0, [])
  | i, b :: t => if (i = 9 ∧ b ≠ 1) ∨ (0 < i ∧ b = 0) then (1, 0, []) else if b < 128 then (0, b.toNat, t) else ((sc (i + 1) t).1, (b - 128).toNat + 128 * (sc (i + 1) t).2.1, (sc (i + 1) t).2.2)
theorem isB_tail {b : Int} {t : List Int} (h : isB (b :: t)) : isB t := fun x hx => h x (.tail _ hx)
theorem sc_err : ∀ (i : Nat) (l : List Int), (sc i l).1 = 0 ∨ (sc i l).1 = 1 ∨ (sc i l).1 = 2
  | _, [] => .inr (.inr rfl)
  | i, b :: t => by
    simp only [sc]
    split
    · exact .inr (.inl rfl)
    · split
      · exact .inl rfl
      · exact sc_err (i + 1) t
theorem sc_ok : ∀ (i : Nat) (l : List Int), i ≤ 9 → isB l → (sc i l).1 = 0 → (sc i l).2.1 < 2 ^ (64 - 7 * i) ∧ (0 < i → 0 < (sc i l).2.1) ∧ (sc i l).2.2.length < l.length ∧ isB (sc i l).2.2 ∧
    l = vb (10 - i) (sc i l).2.1 ++ (sc i l).2.2 ∧ (sc i l).2.2 = l.drop (l.length - (sc i l).2.2.length)
  | _, [], _, _, h => by simp [sc] at h
  | i, b :: t, hi, hB, h => by
    have hb := hB b (.head _)
    simp only [sc] at h ⊢
    obtain ⟨k, hk⟩ : ∃ k, 10 - i = k + 1 := ⟨9 - i, by omega⟩
    by_cases c1 : (i = 9 ∧ b ≠ 1) ∨ (0 < i ∧ b = 0)
    · rw [if_pos c1] at h; simp at h
    · rw [if_neg c1] at h ⊢
      by_cases c2 : b < 128
      · rw [if_pos c2] at h ⊢
        refine ⟨?_, fun h0 => ?_, by simp, isB_tail hB, ?_, ?_⟩
        · simp only
          by_cases h9 : i = 9
          · subst h9
            have : b = 1 := by omega
            subst this; decide
          · have h7 : (2 : Nat) ^ 7 ≤ 2 ^ (64 - 7 * i) := Nat.pow_le_pow_right (by omega) (by omega)
            have : (2 : Nat) ^ 7 = 128 := by decide
            omega
        · simp only; omega
        · simp only [hk, vb]
          rw [if_pos (by omega)]
          simp; omega
        · simp
      · rw [if_neg c2] at h ⊢
        have h8 : i ≤ 8 := by omega
        obtain ⟨r1, r2, r3, r4, r5, r6⟩ := sc_ok (i + 1) t (by omega) (isB_tail hB) h
        simp only
        have hp : (2 : Nat) ^ (64 - 7 * i) = 128 * 2 ^ (64 - 7 * (i + 1)) := by
          rw [show 64 - 7 * i = 7 + (64 - 7 * (i + 1)) by omega, Nat.pow_add]
        have hpos := r2 (by omega)
        generalize hu : (sc (i + 1) t).2.1 = u at *
        generalize ht : (sc (i + 1) t).2.2 = t' at *
        refine ⟨by omega, fun _ => by omega, by simp; omega, r4, ?_, ?_⟩
        · rw [hk]
          simp only [vb]
          rw [if_neg (by omega)]
          have e1 : ((b - 128).toNat + 128 * u) / 128 = u := by omega
          have e2 : ((128 + ((b - 128).toNat + 128 * u) % 128 : Nat) : Int) = b := by omega
          rw [e1, e2, List.cons_append, show k = 10 - (i + 1) by omega, ← r5]
        · rw [List.length_cons, show t.length + 1 - t'.length = (t.length - t'.length) + 1 by omega, List.drop_succ_cons]
          exact r6
theorem sc_vb : ∀ (i u : Nat) (t : List Int), i ≤ 9 → u < 2 ^ (64 - 7 * i) → (0 < i → 0 < u) → sc i (vb (10 - i) u ++ t) = (0, u, t)
  | i, u, t, hi, hu, h0 => by
    obtain ⟨k, hk⟩ : ∃ k, 10 - i = k + 1 := ⟨9 - i, by omega⟩
    rw [hk]
    simp only [vb]
    have hu9 : i = 9 → u < 2 := fun e => by subst e; simpa using hu
    by_cases c : u < 128
    · rw [if_pos c]
      simp only [List.cons_append, List.nil_append, sc]
      rw [if_neg (by omega), if_pos (by omega)]
      simp
    · rw [if_neg c]
      have h8 : i ≤ 8 := by
        rcases Nat.lt_or_ge i 9 with q | q
        · omega
        · have := hu9 (by omega); omega
      have hp : (2 : Nat) ^ (64 - 7 * i) = 128 * 2 ^ (64 - 7 * (i + 1)) := by
        rw [show 64 - 7 * i = 7 + (64 - 7 * (i + 1)) by omega, Nat.pow_add]
      have ih := sc_vb (i + 1) (u / 128) t (by omega) (by omega) (fun _ => by omega)
      rw [show 10 - (i + 1) = k by omega] at ih
      simp only [List.cons_append, sc]
      rw [if_neg (by omega), if_neg (by omega), ih]
      simp only [Prod.mk.injEq, true_and, and_true]
      omega
termination_by i _ _ => 10 - i
theorem bit7 {v i b : Nat} (hv : v < 128 ^ i) (hb : b < 128) (hs : v + b * 128 ^ i < 2 ^ 64) : Go.bits .or .u64 (v : Int) ((b * 128 ^ i : Nat) : Int) = ((v + b * 128 ^ i : Nat) : Int) := by
  rw [(bits_u64 v (b * 128 ^ i) (by omega) (by omega)).2.1]
  congr 1
  have e : (128 : Nat) ^ i = 2 ^ (7 * i) := by rw [show (128 : Nat) = 2 ^ 7 by decide, ← Nat.pow_mul]
  rw [e] at hv ⊢
  have := Nat.two_pow_add_eq_or_of_lt hv b
  rw [Nat.mul_comm b, Nat.or_comm, ← this, Nat.add_comm]
theorem pow64 {i : Nat} (hi : i ≤ 9) : 128 ^ i * 2 ^ (64 - 7 * i) = 2 ^ 64 := by
  rw [show (128 : Nat) ^ i = 2 ^ (7 * i) by rw [show (128 : Nat) = 2 ^ 7 by decide, ← Nat.pow_mul], ← Nat.pow_add]
  congr 1; omega
def scG (len v i : Nat) (r : Int × Nat × List Int) : Unit ⊕ (Int × Int × Int) :=
  if r.1 = 2 then .inl () else if r.1 = 1 then .inr (0, 0, 1) else .inr (unz (v + 128 ^ i * r.2.1), ((len - r.2.2.length : Nat) : Int), 0)
theorem sc_bad {i : Nat} {b : Int} {t : List Int} (h : (i = 9 ∧ b ≠ 1) ∨ (0 < i ∧ b = 0)) : sc i (b :: t) = (1, 0, []) := by simp only [sc]; rw [if_pos h]
theorem sc_last {i : Nat} {b : Int} {t : List Int} (h : ¬((i = 9 ∧ b ≠ 1) ∨ (0 < i ∧ b = 0))) (h2 : b < 128) : sc i (b :: t) = (0, b.toNat, t) := by simp only [sc]; rw [if_neg h, if_pos h2]
theorem sc_more {i : Nat} {b : Int} {t : List Int} (h : ¬((i = 9 ∧ b ≠ 1) ∨ (0 < i ∧ b = 0))) (h2 : ¬ b < 128) : sc i (b :: t) = ((sc (i + 1) t).1, (b - 128).toNat + 128 * (sc (i + 1) t).2.1, (sc (i + 1) t).2.2) := by simp only [sc]; rw [if_neg h, if_neg h2]
theorem scanLoop (N : Nat) (x0 : List Int) (hlen : x0.length ≤ 100000) : ∀ (l : List Int) (i v fuel : Nat), x0.drop i = l → isB l → i ≤ 9 → v < 128 ^ i → l.length < fuel → i ≤ x0.length → loopN (codec_scan_l1 N x0) fuel ((v : Int), (i : Int)) = some (scG x0.length v i (sc i l))
  | [], i, v, fuel, hd, _, hi, hv, hf, hix => by
    obtain ⟨f, rfl⟩ : ∃ f, fuel = f + 1 := ⟨fuel - 1, by simp at hf; omega⟩
    have hge : x0.length ≤ i := by
      have := congrArg List.length hd
      simp at this; omega
    simp only [loopN, codec_scan_l1]
    rw [if_neg (by simp; omega)]
    simp [scG, sc]
  | b :: t, i, v, fuel, hd, hB, hi, hv, hf, hix => by
    obtain ⟨f, rfl⟩ : ∃ f, fuel = f + 1 := ⟨fuel - 1, by simp at hf; omega⟩
    have hb := hB b (.head _)
    have hlt : i < x0.length := by
      have := congrArg List.length hd
      simp at this; omega
    have hx : idx x0 (i : Int) = some b := by
      unfold idx
      rw [if_pos (by omega)]
      have := congrArg (fun l => l[0]?) hd
      simpa using this
    have hd2 : x0.drop (i + 1) = t := by
      have := congrArg List.tail hd
      simpa using this
    simp only [loopN, codec_scan_l1]
    rw [if_pos (by simpa using hlt), hx, Option.bind_some]
    by_cases c1 : (i = 9 ∧ b ≠ 1) ∨ (0 < i ∧ b = 0)
    · rw [sc_bad c1, if_pos (by simp; omega)]
      simp [scG]
    · rw [if_neg (by simp; omega)]
      have e7 : IntKind.wrap .i64 (7 * (i : Int)) = ((7 * i : Nat) : Int) := by rw [wi64 (by omega) (by omega)]; omega
      have eb : IntKind.wrap .u64 (Go.bits .and .u8 b 127) = ((b.toNat % 128 : Nat) : Int) := by rw [and127 hb.1 hb.2, wu64]; omega
      have h9 : i = 9 → b = 1 := fun e => by omega
      have hp := pow64 hi
      have hbm : b.toNat % 128 < 2 ^ (64 - 7 * i) ∧ (i ≤ 8 → 128 ≤ 2 ^ (64 - 7 * i)) := by
        refine ⟨?_, fun h8 => ?_⟩
        · by_cases e9 : i = 9
          · rw [h9 e9, e9]; decide
          · have h7 : (2 : Nat) ^ 7 ≤ 2 ^ (64 - 7 * i) := Nat.pow_le_pow_right (by omega) (by omega)
            have : (2 : Nat) ^ 7 = 128 := by decide
            omega
        · have h7 : (2 : Nat) ^ 7 ≤ 2 ^ (64 - 7 * i) := Nat.pow_le_pow_right (by omega) (by omega)
          simpa using h7
      have hmul : v + b.toNat % 128 * 128 ^ i < 2 ^ 64 := by
        have h1 : (b.toNat % 128 + 1) * 128 ^ i ≤ 2 ^ (64 - 7 * i) * 128 ^ i := Nat.mul_le_mul_right _ hbm.1
        rw [Nat.mul_comm (2 ^ (64 - 7 * i)), hp, Nat.add_mul, Nat.one_mul] at h1
        omega
      have es : shlW .u64 (IntKind.wrap .u64 (Go.bits .and .u8 b 127)) (IntKind.wrap .i64 (7 * (i : Int))) = some ((b.toNat % 128 * 128 ^ i : Nat) : Int) := by
        simp only [shlW]
        rw [eb, e7, if_neg (by omega), wu64]
        congr 1
        have e2 : min ((7 * i : Nat) : Int).toNat IntKind.u64.bits = 7 * i := by
          show min ((7 * i : Nat) : Int).toNat 64 = 7 * i
          omega
        rw [e2]
        have e3 : (128 : Nat) ^ i = 2 ^ (7 * i) := by rw [show (128 : Nat) = 2 ^ 7 by decide, ← Nat.pow_mul]
        rw [e3] at hmul ⊢
        have e4 : ((b.toNat % 128 : Nat) : Int) * 2 ^ (7 * i) = ((b.toNat % 128 * 2 ^ (7 * i) : Nat) : Int) := by simp
        rw [e4]; omega
      rw [es, Option.bind_some, bit7 hv (by omega) hmul]
      by_cases c2 : b < 128
      · rw [sc_last c1 c2, if_pos (by simpa using c2), back_p N hmul]
        simp only [Option.bind_some]
        have e1 : IntKind.wrap .i64 ((i : Int) + 1) = ((x0.length - t.length : Nat) : Int) := by
          rw [wi64 (by omega) (by omega)]
          have := congrArg List.length hd2
          simp at this; omega
        have e2 : b.toNat % 128 = b.toNat := by omega
        rw [e1, e2, Nat.mul_comm b.toNat]
        simp [scG]
      · rw [sc_more c1 c2, if_neg (by simpa using c2)]
        have h8 : i ≤ 8 := by omega
        have hv2 : v + b.toNat % 128 * 128 ^ i < 128 ^ (i + 1) := by
          have h1 : (b.toNat % 128 + 1) * 128 ^ i ≤ 128 * 128 ^ i := Nat.mul_le_mul_right _ (by omega)
          rw [Nat.add_mul, Nat.one_mul] at h1
          rw [Nat.pow_succ, Nat.mul_comm (128 ^ i)]; omega
        have ih := scanLoop N x0 hlen t (i + 1) (v + b.toNat % 128 * 128 ^ i) f hd2 (isB_tail hB) (by omega) hv2 (by simp at hf; omega) (by omega)
        simp only [Option.bind_some]
        rw [wi64 (by omega) (by omega)]
        refine (Eq.trans ?_ (ih.trans ?_))
        · rfl
        · unfold scG
          simp only
          congr 1
          have hb2 : b.toNat % 128 = (b - 128).toNat := by omega
          have e5 : v + b.toNat % 128 * 128 ^ i + 128 ^ (i + 1) * (sc (i + 1) t).2.1 = v + 128 ^ i * ((b - 128).toNat + 128 * (sc (i + 1) t).2.1) := by
            rw [hb2, Nat.pow_succ, Nat.mul_add, Nat.mul_comm (b - 128).toNat, Nat.mul_assoc, Nat.add_assoc]
          rw [e5]
end Gx
namespace Gx
open Go Gd
set_option linter.unusedVariables false
set_option linter.unusedSimpArgs false
def pnG (r : Int × Nat × List Int) : Int × Int × List Int := if r.1 = 0 then (unz r.2.1, 0, r.2.2) else (0, r.1, [])
def pn (l : List Int) : Int × Int × List Int := pnG (sc 0 l)
theorem scan_p {N : Nat} (hN : 2000 ≤ N) {l : List Int} (hB : isB l) (hl : l.length ≤ 1000) : codec_scan N l = some (if (sc 0 l).1 = 0 then (unz (sc 0 l).2.1, ((l.length - (sc 0 l).2.2.length : Nat) : Int), 0) else (0, 0, (sc 0 l).1)) := by
  unfold codec_scan
  have := scanLoop N l (by omega) l 0 0 N rfl hB (by omega) (by simp) (by omega) (by omega)
  rw [show loopN (codec_scan_l1 N l) N (0, 0) = _ from this, Option.bind_some]
  unfold scG
  rcases sc_err 0 l with h | h | h
  · rw [if_neg (by omega), if_neg (by omega), if_pos h]; simp
  · rw [if_neg (by omega), if_pos h, if_neg (by omega), h]
  · rw [if_pos h, if_neg (by omega), h]
theorem rest_p {N : Nat} {l : List Int} (hl : l.length ≤ 1000) {k : Nat} (hk : k ≤ l.length) : codec_rest N l (k : Int) = some (l.drop k) ∧ codec_rest_2 N l (k : Int) = some (l.drop k) := by
  have e1 : mkL 1 (IntKind.wrap .i64 ((List.length l : Int) - (k : Int))) (IntKind.wrap .i64 ((List.length l : Int) - (k : Int))) (0 : Int) = some (List.replicate (l.length - k) 0) := by
    unfold mkL
    rw [wi64 (by omega) (by omega), if_pos (by omega)]
    congr 2; omega
  have e2 : slc l (k : Int) (List.length l : Int) = some (l.drop k) := by
    unfold slc
    rw [if_pos (by omega), Int.toNat_natCast, List.take_of_length_le (by simp)]
  have e3 : copyL (List.replicate (l.length - k) (0 : Int)) (l.drop k) = l.drop k := by
    unfold copyL
    have : Nat.min (l.drop k).length (List.replicate (l.length - k) (0 : Int)).length = l.length - k := by simp
    rw [this, List.take_of_length_le (by simp)]; simp
  constructor
  · unfold codec_rest
    rw [e1, Option.bind_some, e2]
    simp [chk, e3]
  · unfold codec_rest_2
    rw [e1, Option.bind_some, e2]
    simp [chk, e3]
theorem number_p {N : Nat} (hN : 2000 ≤ N) {l : List Int} (hB : isB l) (hl : l.length ≤ 1000) : (codec_Number N l) = some (pn l) := by
  unfold codec_Number
  rw [scan_p hN hB hl, Option.bind_some]
  unfold pn pnG
  by_cases h : (sc 0 l).1 = 0
  · obtain ⟨_, _, h3, _, _, h6⟩ := sc_ok 0 l (by omega) hB h
    rw [if_pos h, if_pos h]
    simp only
    rw [if_neg (by simp), (rest_p (N := N) hl (k := l.length - (sc 0 l).2.2.length) (by omega)).1, Option.bind_some, ← h6]
  · rw [if_neg h, if_neg h]
    simp only
    rw [if_pos (by simpa using h)]
theorem pn_ok {l : List Int} (hB : isB l) : isB (pn l).2.2 ∧ (pn l).2.2.length ≤ l.length ∧ ((pn l).2.1 = 0 → i64B (pn l).1 ∧ l = vz (pn l).1 ++ (pn l).2.2) := by
  unfold pn pnG
  by_cases h : (sc 0 l).1 = 0
  · obtain ⟨h1, _, h3, h4, h5, h6⟩ := sc_ok 0 l (by omega) hB h
    rw [if_pos h]
    exact ⟨h4, by simp only; omega, fun _ => ⟨unz_i64 h1, by simp only [vz, zig_unz]; exact h5⟩⟩
  · rw [if_neg h]
    exact ⟨fun b hb => by simp at hb, by simp, fun h0 => absurd h0 h⟩
theorem pn_vz {x : Int} (h : i64B x) (t : List Int) : pn (vz x ++ t) = (x, 0, t) := by
  have := sc_vb 0 (zig x) t (by omega) (zig_lt h) (by omega)
  unfold pn pnG vz
  rw [show (10 : Nat) = 10 - 0 from rfl, this]
  simp [unz_zig]
def ptG (p : Int × Int × List Int) : Str × List Int × Int :=
  if p.2.1 ≠ 0 then ([], [], p.2.1) else if p.1 < 0 then ([], [], 1) else if p.1 > 1048576 then ([], [], 5) else if p.1 > (p.2.2.length : Int) then ([], [], 2) else (bstr (p.2.2.take p.1.toNat), p.2.2.drop p.1.toNat, 0)
def pt (l : List Int) : Str × List Int × Int := ptG (pn l)
theorem text_p42 {N : Nat} (hN : 2000 ≤ N) {l : List Int} (hB : isB l) (hl : l.length ≤ 1000) : codec_Text N l = some (pt l) := by
  unfold codec_Text codec_length pt
  rw [scan_p hN hB hl, Option.bind_some]
  unfold pn pnG
  by_cases h : (sc 0 l).1 = 0
  · obtain ⟨_, _, h3, _, _, h6⟩ := sc_ok 0 l (by omega) hB h
    rw [if_pos h, if_pos h]
    generalize (sc 0 l).2.1 = u at *
    generalize (sc 0 l).2.2 = r at *
    have eG : ptG (unz u, 0, r) = (if unz u < 0 then ([], [], 1) else if unz u > 1048576 then ([], [], 5) else if unz u > (r.length : Int) then ([], [], 2) else (bstr (r.take (unz u).toNat), r.drop (unz u).toNat, 0)) := by
      unfold ptG; rw [if_neg (by simp)]
    rw [eG]
    simp only
    rw [if_neg (by decide)]
    by_cases h1 : unz u < 0
    · rw [if_pos (by simpa using h1), if_pos h1]; rfl
    · rw [if_neg (by simpa using h1), if_neg h1]
      by_cases h4 : unz u > 1048576
      · rw [if_pos (by simpa using h4), if_pos h4]; rfl
      · rw [if_neg (by simpa using h4), if_neg h4, Option.bind_some]
        simp only
        rw [if_neg (by decide), wi64 (n := (List.length l : Int) - _) (by omega) (by omega)]
        by_cases h5 : unz u > (r.length : Int)
        · rw [if_pos (by simp; omega), if_pos h5]
        · rw [if_neg (by simp; omega), if_neg h5]
          obtain ⟨n, hn⟩ : ∃ n : Nat, unz u = n := ⟨(unz u).toNat, by omega⟩
          rw [hn] at h5 ⊢
          have e1 : IntKind.wrap .i64 (((l.length - r.length : Nat) : Int) + (n : Int)) = ((l.length - r.length + n : Nat) : Int) := by rw [wi64 (by omega) (by omega)]; omega
          rw [e1, (rest_p (N := N) hl (k := l.length - r.length + n) (by omega)).2]
          unfold slc
          rw [if_pos (by omega), Option.bind_some, Option.bind_some, Int.toNat_natCast, ← h6]
          have e2 : (((l.length - r.length + n : Nat) : Int) - ((l.length - r.length : Nat) : Int)).toNat = n := by omega
          have e3 : l.drop (l.length - r.length + n) = r.drop n := by rw [← List.drop_drop, ← h6]
          rw [e2, e3]
          simp
  · rw [if_neg h, if_neg h]
    unfold ptG
    simp only
    rw [if_pos (by simpa using h), if_pos (by simpa using h), Option.bind_some]
    simp only
    rw [if_pos (by simpa using h)]
end Gx
namespace Gx
open Go Gd
set_option linter.unusedVariables false
set_option linter.unusedSimpArgs false
abbrev RdS := List Int × Int
def rdN (s : RdS) : Int × RdS := if s.2 ≠ 0 then (0, s) else ((pn s.1).1, (pn s.1).2.2, (pn s.1).2.1)
def rt7 (s : RdS) : Str × RdS := if s.2 ≠ 0 then ([], s) else pt s.1
def okS (s : RdS) : Prop := isB s.1 ∧ s.1.length ≤ 1000
theorem rdN_ok {s : RdS} (h : okS s) : okS (rdN s).2 := by
  unfold rdN
  split
  · exact h
  · obtain ⟨h1, h2, _⟩ := pn_ok h.1
    exact ⟨h1, Nat.le_trans h2 h.2⟩
theorem isB_sub {l m : List Int} (h : isB l) (hs : ∀ x ∈ m, x ∈ l) : isB m := fun b hb => h b (hs b hb)
theorem pt_ok {l : List Int} (hB : isB l) : isB (pt l).2.1 ∧ (pt l).2.1.length ≤ l.length := by
  obtain ⟨h1, h2, _⟩ := pn_ok hB
  have hn : isB ([] : List Int) ∧ ([] : List Int).length ≤ l.length := ⟨fun b hb => by simp at hb, by simp⟩
  unfold pt ptG
  split
  · exact hn
  · split
    · exact hn
    · split
      · exact hn
      · split
        · exact hn
        · exact ⟨isB_sub h1 fun x hx => List.mem_of_mem_drop hx, by simp only [List.length_drop]; omega⟩
theorem rt_ok7 {s : RdS} (h : okS s) : okS (rt7 s).2 := by
  unfold rt7
  split
  · exact h
  · obtain ⟨h1, h2⟩ := pt_ok h.1
    exact ⟨h1, Nat.le_trans h2 h.2⟩
theorem rnum_p {N : Nat} (hN : 2000 ≤ N) {s : RdS} (h : okS s) : journal_reader_number N s = some (rdN s) := by
  unfold journal_reader_number rdN
  by_cases h0 : s.2 ≠ 0
  · rw [if_pos h0, if_pos (by simpa using h0)]
  · rw [if_neg h0, if_neg (by simpa using h0), number_p hN h.1 h.2]; rfl
theorem rtext_p {N : Nat} (hN : 2000 ≤ N) {s : RdS} (h : okS s) : journal_reader_text N s = some (rt7 s) := by
  unfold journal_reader_text rt7
  by_cases h0 : s.2 ≠ 0
  · rw [if_pos h0, if_pos (by simpa using h0)]
  · rw [if_neg h0, if_neg (by simpa using h0), text_p42 hN h.1 h.2]; rfl
def rs1 (l : List Int) := rdN (l, 0)
def rs2 (l : List Int) := rdN (rs1 l).2
def rs3 (l : List Int) := rdN (rs2 l).2
def rs4 (l : List Int) := rdN (rs3 l).2
def rs5 (l : List Int) := rdN (rs4 l).2
def rs6 (l : List Int) := rdN (rs5 l).2
def rs7 (l : List Int) := rt7 (rs6 l).2
def rs8 (l : List Int) := rdN (rs7 l).2
def rs9 (l : List Int) := rdN (rs8 l).2
def decQ (l : List Int) : ApiRequest × Int :=
  if (rs9 l).2.2 ≠ 0 then ((0, 0, 0, 0, 0, 0, [], 0, 0), (rs9 l).2.2) else if 0 < (rs9 l).2.1.length then ((0, 0, 0, 0, 0, 0, [], 0, 0), 3) else
    (((rs1 l).1, (rs2 l).1, (rs3 l).1, (rs4 l).1, (rs5 l).1, (rs6 l).1, (rs7 l).1, (rs8 l).1, (rs9 l).1), 0)
theorem rs_ok {l : List Int} (hB : isB l) (hl : l.length ≤ 1000) : okS (l, 0) ∧ okS (rs1 l).2 ∧ okS (rs2 l).2 ∧ okS (rs3 l).2 ∧ okS (rs4 l).2 ∧ okS (rs5 l).2 ∧ okS (rs6 l).2 ∧ okS (rs7 l).2 ∧ okS (rs8 l).2 := by
  have h0 : okS (l, 0) := ⟨hB, hl⟩
  have h1 := rdN_ok h0; have h2 := rdN_ok (s := (rs1 l).2) h1; have h3 := rdN_ok (s := (rs2 l).2) h2; have h4 := rdN_ok (s := (rs3 l).2) h3; have h5 := rdN_ok (s := (rs4 l).2) h4; have h6 := rdN_ok (s := (rs5 l).2) h5
  have h7 := rt_ok7 (s := (rs6 l).2) h6; have h8 := rdN_ok (s := (rs7 l).2) h7
  exact ⟨h0, h1, h2, h3, h4, h5, h6, h7, h8⟩
theorem decode_p {N : Nat} (hN : 2000 ≤ N) {l : List Int} (hB : isB l) (hl : l.length ≤ 1000) : journal_Decode N l = some (decQ l) := by
  obtain ⟨h0, h1, h2, h3, h4, h5, h6, h7, h8⟩ := rs_ok hB hl
  have e1 : journal_reader_number N (l, 0) = some ((rs1 l).1, (rs1 l).2.1, (rs1 l).2.2) := rnum_p hN h0
  have e2 : journal_reader_number N ((rs1 l).2.1, (rs1 l).2.2) = some ((rs2 l).1, (rs2 l).2.1, (rs2 l).2.2) := rnum_p hN h1
  have e3 : journal_reader_number N ((rs2 l).2.1, (rs2 l).2.2) = some ((rs3 l).1, (rs3 l).2.1, (rs3 l).2.2) := rnum_p hN h2
  have e4 : journal_reader_number N ((rs3 l).2.1, (rs3 l).2.2) = some ((rs4 l).1, (rs4 l).2.1, (rs4 l).2.2) := rnum_p hN h3
  have e5 : journal_reader_number N ((rs4 l).2.1, (rs4 l).2.2) = some ((rs5 l).1, (rs5 l).2.1, (rs5 l).2.2) := rnum_p hN h4
  have e6 : journal_reader_number N ((rs5 l).2.1, (rs5 l).2.2) = some ((rs6 l).1, (rs6 l).2.1, (rs6 l).2.2) := rnum_p hN h5
  have e7 : journal_reader_text N ((rs6 l).2.1, (rs6 l).2.2) = some ((rs7 l).1, (rs7 l).2) := rtext_p hN h6
  have e8 : journal_reader_number N (rs7 l).2 = some ((rs8 l).1, (rs8 l).2.1, (rs8 l).2.2) := rnum_p hN h7
  have e9 : journal_reader_number N ((rs8 l).2.1, (rs8 l).2.2) = some ((rs9 l).1, (rs9 l).2.1, (rs9 l).2.2) := rnum_p hN h8
  unfold journal_Decode
  rw [e1, Option.bind_some]
  simp only
  rw [e2, Option.bind_some]
  simp only
  rw [e3, Option.bind_some]
  simp only
  rw [e4, Option.bind_some]
  simp only
  rw [e5, Option.bind_some]
  simp only
  rw [e6, Option.bind_some]
  simp only
  rw [e7, Option.bind_some]
  simp only
  rw [e8, Option.bind_some]
  simp only
  rw [e9, Option.bind_some]
  unfold decQ
  clear e9
  generalize rs9 l = p
  obtain ⟨v, b, e⟩ := p
  simp only
  by_cases c1 : e ≠ 0
  · rw [if_pos c1, if_pos (by simpa using c1)]
  · rw [if_neg c1, if_neg (by simpa using c1)]
    by_cases c2 : 0 < b.length
    · rw [if_pos c2, if_pos (by simpa using c2)]
    · rw [if_neg c2, if_neg (by simpa using c2)]
end Gx
namespace Gx
open Go Gd
set_option linter.unusedVariables false
set_option linter.unusedSimpArgs false
theorem gdReq {r : ApiRequest} (g : gd tyApiRequest r) (h : r.B.length ≤ 1000) : okR6 r := by
  obtain ⟨g1, g2, g3, g4, g5, g6, g7, g8, g9⟩ := g
  exact ⟨g1, g2, g3, g4, g5, g6, g8, g9, h⟩
theorem gdBytes {l : List Int} (g : gd (.sl (.int .u8)) l) : isB l := fun b hb => by
  have h := g.2 b hb
  have h1 : IntKind.u8.min ≤ b := h.1
  have h2 : b ≤ IntKind.u8.max := h.2
  have e1 : IntKind.u8.min = 0 := by decide
  have e2 : IntKind.u8.max = 255 := by decide
  omega
theorem sbytes_bstr {l : List Int} (h : isB l) : sbytes (bstr l) = l := by
  unfold sbytes bstr
  rw [List.map_map]
  refine (List.map_congr_left fun b hb => ?_).trans (List.map_id _)
  have := h b hb
  simp only [Function.comp, id]
  rw [UInt8.toNat_ofNat']
  omega
theorem bstr_sbytes (s : Str) : bstr (sbytes s) = s := by
  unfold sbytes bstr
  rw [List.map_map]
  refine (List.map_congr_left fun b hb => ?_).trans (List.map_id _)
  simp only [Function.comp, id, Int.toNat_natCast]
  exact UInt8.ofNat_toNat
theorem sbytes_len (s : Str) : (sbytes s).length = s.length := by simp [sbytes]
theorem rd_vz {x : Int} (h : i64B x) (t : List Int) : rdN (vz x ++ t, 0) = (x, t, 0) := by
  unfold rdN
  rw [if_neg (by simp)]
  simp only
  rw [pn_vz h]
theorem dec_enc {r : ApiRequest} (h : okR6 r) : decQ (encR r) = (r, 0) := by
  obtain ⟨h1, h2, h3, h4, h5, h6, h7, h8, h9⟩ := h
  have hl : pt (vz (r.B.length : Int) ++ (sbytes r.B ++ (vz r.Used ++ (vz r.Ask ++ [])))) = (r.B, vz r.Used ++ (vz r.Ask ++ []), 0) := by
    unfold pt ptG
    rw [pn_vz (len_i64 (by omega))]
    simp only
    rw [if_neg (by simp), if_neg (by omega), if_neg (by omega), if_neg (by simp [sbytes]; omega), Int.toNat_natCast, List.take_left' (sbytes_len _), List.drop_left' (sbytes_len _), bstr_sbytes]
  have e : encR r = vz r.Session ++ (vz r.Seq ++ (vz r.Kind ++ (vz r.At ++ (vz r.Sub ++ (vz r.Usage ++ (vz (r.B.length : Int) ++ (sbytes r.B ++ (vz r.Used ++ (vz r.Ask ++ []))))))))) := by
    rw [encR_eq]; simp only [List.append_assoc, List.append_nil]
  generalize ht9 : vz r.Ask ++ ([] : List Int) = t9 at *
  generalize ht8 : vz r.Used ++ t9 = t8 at *
  generalize ht7 : vz (r.B.length : Int) ++ (sbytes r.B ++ t8) = t7 at *
  generalize ht6 : vz r.Usage ++ t7 = t6 at *
  generalize ht5 : vz r.Sub ++ t6 = t5 at *
  generalize ht4 : vz r.At ++ t5 = t4 at *
  generalize ht3 : vz r.Kind ++ t4 = t3 at *
  generalize ht2 : vz r.Seq ++ t3 = t2 at *
  have s1 : rs1 (encR r) = (r.Session, t2, 0) := by unfold rs1; rw [e]; exact rd_vz h1 _
  have s2 : rs2 (encR r) = (r.Seq, t3, 0) := by unfold rs2; rw [s1, ← ht2]; exact rd_vz h2 _
  have s3 : rs3 (encR r) = (r.Kind, t4, 0) := by unfold rs3; rw [s2, ← ht3]; exact rd_vz h3 _
  have s4 : rs4 (encR r) = (r.At, t5, 0) := by unfold rs4; rw [s3, ← ht4]; exact rd_vz h4 _
  have s5 : rs5 (encR r) = (r.Sub, t6, 0) := by unfold rs5; rw [s4, ← ht5]; exact rd_vz h5 _
  have s6 : rs6 (encR r) = (r.Usage, t7, 0) := by unfold rs6; rw [s5, ← ht6]; exact rd_vz h6 _
  have s7 : rs7 (encR r) = (r.B, t8, 0) := by unfold rs7; rw [s6]; unfold rt7; rw [if_neg (by simp)]; exact hl
  have s8 : rs8 (encR r) = (r.Used, t9, 0) := by unfold rs8; rw [s7, ← ht8]; exact rd_vz h7 _
  have s9 : rs9 (encR r) = (r.Ask, [], 0) := by unfold rs9; rw [s8, ← ht9]; exact rd_vz h8 _
  unfold decQ
  rw [s1, s2, s3, s4, s5, s6, s7, s8, s9]
  simp
theorem rd_back {s : RdS} (h : okS s) (h0 : (rdN s).2.2 = 0) : s.2 = 0 ∧ i64B (rdN s).1 ∧ s.1 = vz (rdN s).1 ++ (rdN s).2.1 := by
  unfold rdN at h0 ⊢
  split at h0
  · rename_i hc; exact absurd h0 hc
  · rename_i hc
    rw [if_neg hc]
    obtain ⟨_, _, h3⟩ := pn_ok h.1
    exact ⟨by simpa using hc, h3 h0⟩
theorem rt_back {s : RdS} (h : okS s) (h0 : (rt7 s).2.2 = 0) : s.2 = 0 ∧ s.1 = vz ((rt7 s).1.length : Int) ++ sbytes (rt7 s).1 ++ (rt7 s).2.1 := by
  unfold rt7 at h0 ⊢
  split at h0
  · rename_i hc; exact absurd h0 hc
  · rename_i hc
    rw [if_neg hc]
    obtain ⟨hb, hle, h3⟩ := pn_ok h.1
    unfold pt ptG at h0 ⊢
    refine ⟨by simpa using hc, ?_⟩
    split at h0
    · rename_i he; exact absurd h0 he
    · rename_i he
      rw [if_neg he]
      have he0 : (pn s.1).2.1 = 0 := by simpa using he
      split at h0
      · simp at h0
      · rename_i c1
        rw [if_neg c1]
        split at h0
        · simp at h0
        · rename_i c2
          rw [if_neg c2]
          split at h0
          · simp at h0
          · rename_i c3
            rw [if_neg c3]
            obtain ⟨n, hn⟩ : ∃ n : Nat, (pn s.1).1 = n := ⟨(pn s.1).1.toNat, by omega⟩
            have h4 := (h3 he0).2
            simp only
            rw [hn] at h4 c3 ⊢
            have hlen : (bstr ((pn s.1).2.2.take n)).length = n := by unfold bstr; rw [List.length_map, List.length_take]; omega
            rw [Int.toNat_natCast, hlen, sbytes_bstr (isB_sub hb fun x hx => List.mem_of_mem_take hx), List.append_assoc, List.take_append_drop]
            exact h4
theorem enc_dec {l : List Int} (hB : isB l) (hl : l.length ≤ 300) (h : (decQ l).2 = 0) : okR6 (decQ l).1 ∧ encR (decQ l).1 = l := by
  obtain ⟨h0, h1, h2, h3, h4, h5, h6, h7, h8⟩ := rs_ok hB (show l.length ≤ 1000 by omega)
  unfold decQ at h ⊢
  split at h
  · rename_i hc; exact absurd h hc
  · rename_i hc
    rw [if_neg hc]
    split at h
    · simp at h
    · rename_i hn
      rw [if_neg hn]
      have z9 : (rs9 l).2.2 = 0 := by simpa using hc
      have r9 : (rs9 l).2.1 = [] := List.length_eq_zero_iff.1 (by omega)
      obtain ⟨z8, i8, a8⟩ := rd_back (s := (rs8 l).2) h8 z9
      obtain ⟨z7, i7, a7⟩ := rd_back (s := (rs7 l).2) h7 z8
      obtain ⟨z6, a6⟩ := rt_back (s := (rs6 l).2) h6 z7
      obtain ⟨z5, i5, a5⟩ := rd_back (s := (rs5 l).2) h5 z6
      obtain ⟨z4, i4, a4⟩ := rd_back (s := (rs4 l).2) h4 z5
      obtain ⟨z3, i3, a3⟩ := rd_back (s := (rs3 l).2) h3 z4
      obtain ⟨z2, i2, a2⟩ := rd_back (s := (rs2 l).2) h2 z3
      obtain ⟨z1, i1, a1⟩ := rd_back (s := (rs1 l).2) h1 z2
      obtain ⟨z0, i0, a0⟩ := rd_back (s := (l, 0)) h0 z1
      have a0' : l = vz (rs1 l).1 ++ (rs1 l).2.1 := a0
      have a1' : (rs1 l).2.1 = vz (rs2 l).1 ++ (rs2 l).2.1 := a1
      have a2' : (rs2 l).2.1 = vz (rs3 l).1 ++ (rs3 l).2.1 := a2
      have a3' : (rs3 l).2.1 = vz (rs4 l).1 ++ (rs4 l).2.1 := a3
      have a4' : (rs4 l).2.1 = vz (rs5 l).1 ++ (rs5 l).2.1 := a4
      have a5' : (rs5 l).2.1 = vz (rs6 l).1 ++ (rs6 l).2.1 := a5
      have a6' : (rs6 l).2.1 = vz ((rs7 l).1.length : Int) ++ sbytes (rs7 l).1 ++ (rs7 l).2.1 := a6
      have a7' : (rs7 l).2.1 = vz (rs8 l).1 ++ (rs8 l).2.1 := a7
      have a8' : (rs8 l).2.1 = vz (rs9 l).1 ++ (rs9 l).2.1 := a8
      have e : vz (rs1 l).1 ++ vz (rs2 l).1 ++ vz (rs3 l).1 ++ vz (rs4 l).1 ++ vz (rs5 l).1 ++ vz (rs6 l).1 ++ vz ((rs7 l).1.length : Int) ++ sbytes (rs7 l).1 ++ vz (rs8 l).1 ++ vz (rs9 l).1 = l := by
        conv => rhs; rw [a0', a1', a2', a3', a4', a5', a6', a7', a8', r9]
        simp only [List.append_assoc, List.append_nil]
      have hlen : (rs7 l).1.length ≤ 1000 := by
        have := congrArg List.length e
        simp only [List.length_append, sbytes_len] at this
        omega
      exact ⟨⟨i0, i1, i2, i3, i4, i5, i7, i8, hlen⟩, by rw [encR_eq]; exact e⟩
theorem encR_B (r : ApiRequest) : isB (encR r) := by
  have hs : isB (sbytes r.B) := fun b hb => by
    obtain ⟨c, _, rfl⟩ := List.mem_map.1 hb
    have := c.toNat_lt
    omega
  rw [encR_eq]
  exact isB_append (isB_append (isB_append (isB_append (isB_append (isB_append (isB_append (isB_append (isB_append (vz_B _) (vz_B _)) (vz_B _)) (vz_B _)) (vz_B _)) (vz_B _)) (vz_B _)) hs) (vz_B _)) (vz_B _)
theorem encR_len {r : ApiRequest} (h : r.B.length ≤ 100) : (encR r).length ≤ 200 := by
  have l1 := vz_len r.Session; have l2 := vz_len r.Seq; have l3 := vz_len r.Kind; have l4 := vz_len r.At; have l5 := vz_len r.Sub; have l6 := vz_len r.Usage
  have l7 := vz_len (r.B.length : Int); have l8 := vz_len r.Used; have l9 := vz_len r.Ask
  rw [encR_eq]
  simp only [List.length_append, sbytes_len]
  omega
theorem law_JournalBack (x0 : ApiRequest) (g0 : gd tyApiRequest x0) (x1 : List Int) (g1 : gd (.sl (.int .u8)) x1) : ∃ N, billinglaw42_JournalBack N x0 x1 = some true := by
  refine ⟨10000 + 64, ?_⟩
  unfold billinglaw42_JournalBack
  rw [alive42]
  by_cases hc : (decide ((List.length x0.B : Int) > 100) || decide ((List.length x1 : Int) > 300)) = true
  · rw [if_pos hc]; rfl
  · rw [if_neg hc]
    have h1 : x0.B.length ≤ 100 := by simp at hc; omega
    have h2 : x1.length ≤ 300 := by simp at hc; omega
    have hB := gdBytes g1
    have hR := gdReq g0 (show x0.B.length ≤ 1000 by omega)
    have hel := encR_len h1
    rw [encode_p (by omega) hR, Option.bind_some, decode_p (by omega) (encR_B x0) (by omega), dec_enc hR, Option.bind_some]
    simp only
    rw [decode_p (by omega) hB (by omega), Option.bind_some]
    by_cases h3 : (decQ x1).2 = 0
    · obtain ⟨q1, q2⟩ := enc_dec hB h2 h3
      have e5 := encode_p (N := 10000 + 64) (by omega) q1
      rw [q2] at e5
      generalize hq : decQ x1 = q at *
      obtain ⟨q, e⟩ := q
      simp only at h3 e5 ⊢
      subst h3
      simp [e5, billingref07_Same]
    · generalize hq : decQ x1 = q at *
      obtain ⟨q, e⟩ := q
      simp only at h3 ⊢
      simp [h3]
end Gx
