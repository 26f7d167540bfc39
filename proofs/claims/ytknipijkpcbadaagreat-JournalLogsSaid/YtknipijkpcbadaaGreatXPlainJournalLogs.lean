/- The plain laws for JournalLogs. -/
import Derived.Test.YtknipijkpcbadaaGreatXFns
import Derived.Test.YtknipijkpcbadaaGreatGAppend
import Derived.KernelRfl
import Derived.Laws.Bits128
namespace Gx
open Go Gd
set_option linter.unusedVariables false
set_option linter.unusedSimpArgs false
theorem loopN_inv {σ τ : Type} {f : σ → Option (σ ⊕ τ)} (k : Nat) (I : Nat → σ → Prop) (R : τ → Prop)
    (step : ∀ i s, i ≤ k → I i s → (∃ s', i < k ∧ f s = some (.inl s') ∧ I (i + 1) s') ∨ (∃ r, f s = some (.inr r) ∧ R r)) :
    ∀ {n : Nat} {s : σ}, k < n → I 0 s → ∃ r, loopN f n s = some r ∧ R r := by
  have main : ∀ (d i n : Nat) (s : σ), i + d = k → d < n → I i s → ∃ r, loopN f n s = some r ∧ R r := by
    intro d
    induction d with
    | zero =>
      intro i n s hi hn hI
      obtain ⟨m, rfl⟩ : ∃ m, n = m + 1 := ⟨n - 1, by omega⟩
      rcases step i s (by omega) hI with ⟨s', h, _⟩ | ⟨r, h1, h2⟩
      · omega
      · exact ⟨r, by simp [loopN, h1], h2⟩
    | succ d ih =>
      intro i n s hi hn hI
      obtain ⟨m, rfl⟩ : ∃ m, n = m + 1 := ⟨n - 1, by omega⟩
      rcases step i s (by omega) hI with ⟨s', _, h1, h2⟩ | ⟨r, h1, h2⟩
      · obtain ⟨r, h3, h4⟩ := ih (i + 1) m s' (by omega) (by omega) h2
        exact ⟨r, by simp [loopN, h1, h3], h4⟩
      · exact ⟨r, by simp [loopN, h1], h2⟩
  intro n s hn hI
  exact main k 0 n s (by omega) hn hI
theorem loop_list {α σ ρ τ : Type} (l : List α) (hl : l.length ≤ maxLen) {f : ρ → Option (ρ ⊕ τ)} (mk : σ → Int → ρ) (Inv : Nat → σ → Prop) (go : σ → List α → τ)
    (h0 : ∀ s, Inv l.length s → decide (((l.length : Nat) : Int) < (l.length : Int)) = false → f (mk s (l.length : Int)) = some (.inr (go s [])))
    (h1 : ∀ s (i : Nat) x xs, l[i]? = some x → decide ((i : Int) < (l.length : Int)) = true → idx l (i : Int) = some x → IntKind.wrap .i64 ((i : Int) + 1) = ((i + 1 : Nat) : Int) → l.drop i = x :: xs → Inv i s →
      (∃ s', f (mk s (i : Int)) = some (.inl (mk s' ((i + 1 : Nat) : Int))) ∧ Inv (i + 1) s' ∧ go s (x :: xs) = go s' xs) ∨ f (mk s (i : Int)) = some (.inr (go s (x :: xs))))
    {n : Nat} {s : σ} (hn : l.length < n) (hs : Inv 0 s) : loopN f n (mk s 0) = some (go s l) := by
  have main : ∀ (k i n : Nat) (s : σ), l.length = i + k → k < n → Inv i s → loopN f n (mk s (i : Int)) = some (go s (l.drop i)) := by
    intro k
    induction k with
    | zero =>
      intro i n s hk hn hI
      obtain ⟨m, rfl⟩ : ∃ m, n = m + 1 := ⟨n - 1, by omega⟩
      have hi : i = l.length := by omega
      subst hi
      rw [List.drop_length]
      simp [loopN, h0 s hI (by simp)]
    | succ k ih =>
      intro i n s hk hn hI
      obtain ⟨m, rfl⟩ : ∃ m, n = m + 1 := ⟨n - 1, by omega⟩
      have hlt : i < l.length := by omega
      have hd := List.drop_eq_getElem_cons hlt
      rw [hd]
      rcases h1 s i _ _ (List.getElem?_eq_getElem hlt) (by simpa using hlt) (idx_nat (List.getElem?_eq_getElem hlt)) (wrap_succ (by omega)) hd hI with ⟨s', e1, e2, e3⟩ | e1
      · simp only [loopN, e1, Option.bind_some, e3]
        exact ih (i + 1) m s' (by omega) (by omega) e2
      · simp only [loopN, e1, Option.bind_some]
  simpa using main l.length 0 n s (by omega) hn hs
end Gx
namespace Gx
open Go
theorem alive42 (M : Nat) : billinglaw42_alive (M + 64) = some true := by kernel_rfl
end Gx
namespace Gx
open Go Gd
set_option linter.unusedVariables false
set_option linter.unusedSimpArgs false
theorem wu64 (n : Int) : IntKind.wrap .u64 n = n % 18446744073709551616 := by
  simp [IntKind.wrap, IntKind.bits, IntKind.signed]
theorem wu8 (n : Int) : IntKind.wrap .u8 n = n % 256 := by
  simp [IntKind.wrap, IntKind.bits, IntKind.signed]
theorem wi64 {n : Int} (h0 : -9223372036854775808 ≤ n) (h1 : n ≤ 9223372036854775807) : IntKind.wrap .i64 n = n := by
  rw [IntKind.wrap_i64]; omega
theorem bits_u64 (x y : Nat) (hx : x < 2 ^ 64) (hy : y < 2 ^ 64) : Go.bits .and .u64 x y = ((x &&& y : Nat) : Int) ∧ Go.bits .or .u64 x y = ((x ||| y : Nat) : Int) ∧ Go.bits .xor .u64 x y = ((x ^^^ y : Nat) : Int) := by
  have ex : (BitVec.ofInt 64 (x : Int)).toNat = x := by rw [BitVec.toNat_ofInt]; omega
  have ey : (BitVec.ofInt 64 (y : Int)).toNat = y := by rw [BitVec.toNat_ofInt]; omega
  have ha : (x &&& y : Nat) < 2 ^ 64 := Nat.lt_of_le_of_lt Nat.and_le_left hx
  have ho : (x ||| y : Nat) < 2 ^ 64 := Nat.or_lt_two_pow hx hy
  have hx2 : (x ^^^ y : Nat) < 2 ^ 64 := Nat.xor_lt_two_pow hx hy
  refine ⟨?_, ?_, ?_⟩
  · show IntKind.u64.wrap ((BitVec.ofInt 64 (x : Int) &&& BitVec.ofInt 64 (y : Int)).toNat : Nat) = _
    rw [BitVec.toNat_and, ex, ey, wu64]; omega
  · show IntKind.u64.wrap ((BitVec.ofInt 64 (x : Int) ||| BitVec.ofInt 64 (y : Int)).toNat : Nat) = _
    rw [BitVec.toNat_or, ex, ey, wu64]; omega
  · show IntKind.u64.wrap ((BitVec.ofInt 64 (x : Int) ^^^ BitVec.ofInt 64 (y : Int)).toNat : Nat) = _
    rw [BitVec.toNat_xor, ex, ey, wu64]; omega
theorem bits_u8 (x y : Nat) (hx : x < 2 ^ 8) (hy : y < 2 ^ 8) : Go.bits .and .u8 x y = ((x &&& y : Nat) : Int) ∧ Go.bits .or .u8 x y = ((x ||| y : Nat) : Int) := by
  have ex : (BitVec.ofInt 8 (x : Int)).toNat = x := by rw [BitVec.toNat_ofInt]; omega
  have ey : (BitVec.ofInt 8 (y : Int)).toNat = y := by rw [BitVec.toNat_ofInt]; omega
  have ha : (x &&& y : Nat) < 2 ^ 8 := Nat.lt_of_le_of_lt Nat.and_le_left hx
  have ho : (x ||| y : Nat) < 2 ^ 8 := Nat.or_lt_two_pow hx hy
  refine ⟨?_, ?_⟩
  · show IntKind.u8.wrap ((BitVec.ofInt 8 (x : Int) &&& BitVec.ofInt 8 (y : Int)).toNat : Nat) = _
    rw [BitVec.toNat_and, ex, ey, wu8]; omega
  · show IntKind.u8.wrap ((BitVec.ofInt 8 (x : Int) ||| BitVec.ofInt 8 (y : Int)).toNat : Nat) = _
    rw [BitVec.toNat_or, ex, ey, wu8]; omega
theorem or128 (u : Nat) : Go.bits .or .u8 (IntKind.wrap .u8 (u : Int)) 128 = ((128 + u % 128 : Nat) : Int) := by
  have h0 : ∀ y : Nat, y < 128 → (128 ||| y : Nat) = 128 + y := fun y hy => (Nat.two_pow_add_eq_or_of_lt (i := 7) (b := y) hy 1).symm
  have h : ∀ x, x < 256 → (x ||| 128 : Nat) = 128 + x % 128 := fun x hx => by
    by_cases hlt : x < 128
    · rw [Nat.or_comm, h0 x hlt, Nat.mod_eq_of_lt hlt]
    · obtain ⟨y, rfl⟩ : ∃ y, x = 128 + y := ⟨x - 128, by omega⟩
      rw [← h0 y (by omega), Nat.or_comm 128 y, Nat.or_assoc, Nat.or_self, Nat.or_comm, h0 y (by omega)]
      omega
  rw [wu8, show ((u : Int) % 256) = ((u % 256 : Nat) : Int) by omega, show (128 : Int) = ((128 : Nat) : Int) from rfl, (bits_u8 (u % 256) 128 (by omega) (by omega)).2, h _ (by omega)]
  omega
theorem xor_ones (u : Nat) (h : u < 2 ^ 64) : (u ^^^ 18446744073709551615 : Nat) = 18446744073709551615 - u := by
  have := congrArg BitVec.toNat (BitVec.xor_allOnes (x := BitVec.ofNat 64 u))
  rw [BitVec.toNat_xor, BitVec.toNat_not, BitVec.toNat_ofNat, BitVec.toNat_allOnes, Nat.mod_eq_of_lt h] at this
  simpa using this
def zig (x : Int) : Nat := if x < 0 then (2 * (-(x + 1)) + 1).toNat else (2 * x).toNat
def unz (u : Nat) : Int := if u % 2 = 0 then ((u / 2 : Nat) : Int) else -((u / 2 : Nat) : Int) - 1
def i64B (x : Int) : Prop := -9223372036854775808 ≤ x ∧ x ≤ 9223372036854775807
theorem zig_lt {x : Int} (h : i64B x) : zig x < 2 ^ 64 := by
  obtain ⟨h0, h1⟩ := h
  unfold zig; split <;> omega
theorem unz_zig {x : Int} : unz (zig x) = x := by
  unfold unz zig
  split <;> split <;> omega
theorem zigzag_p (N : Nat) {x : Int} (h : i64B x) : codec_zigzag N x = some (zig x : Int) := by
  obtain ⟨h0, h1⟩ := h
  have e1 : shlW .u64 (IntKind.wrap .u64 x) 1 = some (((2 * x) % 18446744073709551616 : Int)) := by
    simp only [shlW]
    rw [if_neg (by omega), wu64, wu64]
    simp only [IntKind.bits]
    congr 1
    have : (2 : Int) ^ min (1 : Int).toNat 64 = 2 := by decide
    rw [this]; omega
  have e2 : shrW .i64 x 63 = some (if x < 0 then -1 else 0) := by
    simp only [shrW]
    rw [if_neg (by omega)]
    congr 1
    have : (2 : Int) ^ min (63 : Int).toNat IntKind.i64.bits = 9223372036854775808 := by decide
    rw [this, Int.fdiv_eq_ediv_of_nonneg _ (by omega)]
    split <;> omega
  unfold codec_zigzag
  rw [e1, Option.bind_some, e2, Option.bind_some]
  congr 1
  unfold zig
  split
  · rw [wu64, show ((-1 : Int) % 18446744073709551616) = ((18446744073709551615 : Nat) : Int) by decide, show ((2 * x) % 18446744073709551616 : Int) = (((2 * x) % 18446744073709551616).toNat : Nat) by omega,
      (bits_u64 _ _ (by omega) (by omega)).2.2, xor_ones _ (by omega)]
    omega
  · rw [wu64, show ((0 : Int) % 18446744073709551616) = ((0 : Nat) : Int) by decide, show ((2 * x) % 18446744073709551616 : Int) = (((2 * x) % 18446744073709551616).toNat : Nat) by omega,
      (bits_u64 _ _ (by omega) (by omega)).2.2, Nat.xor_zero]
    omega
end Gx
namespace Gx
open Go Gd
set_option linter.unusedVariables false
set_option linter.unusedSimpArgs false
def vb : Nat → Nat → List Int
  | 0, _ => []
  | k + 1, u => if u < 128 then [(u : Int)] else ((128 + u % 128 : Nat) : Int) :: vb k (u / 128)
def isB (l : List Int) : Prop := ∀ b ∈ l, 0 ≤ b ∧ b < 256
theorem isB_append {l m : List Int} (h : isB l) (h2 : isB m) : isB (l ++ m) := fun b hb => (List.mem_append.1 hb).elim (h b) (h2 b)
theorem vb_len : ∀ (k u : Nat), (vb k u).length ≤ k
  | 0, u => Nat.le_refl _
  | k + 1, u => by
    simp only [vb]
    split
    · simp
    · simp [vb_len k]
theorem vb_B : ∀ (k u : Nat), isB (vb k u)
  | 0, u => fun b hb => by simp [vb] at hb
  | k + 1, u => by
    simp only [vb]
    split
    · intro b hb
      simp at hb; omega
    · intro b hb
      rcases List.mem_cons.1 hb with rfl | hb
      · omega
      · exact vb_B k _ b hb
theorem app_few {α : Type} {xs ys : List α} (h : xs.length + ys.length ≤ 100000) : app 1 xs ys = some (xs ++ ys) := by
  unfold app
  rw [if_pos (by omega)]
theorem addLoop (N : Nat) : ∀ (k u : Nat) (m : List Int) (fuel : Nat), 0 < k → u < 128 ^ k → k < fuel → u < 2 ^ 64 → m.length + k ≤ 100000 →
    ((loopN (codec_add_l1 N) fuel ((u : Int), m)).bind fun (v6, v7) => (app 1 v7 ([(IntKind.wrap .u8 v6)] : (List Int))).bind fun q8 => some q8) = some (m ++ vb k u)
  | 0, u, m, fuel, h0, _, _, _, _ => by omega
  | k + 1, u, m, fuel, _, h, hf, h64, hm => by
    obtain ⟨f, rfl⟩ : ∃ f, fuel = f + 1 := ⟨fuel - 1, by omega⟩
    simp only [loopN, codec_add_l1]
    by_cases hu : u < 128
    · rw [show decide ((u : Int) ≥ 128) = false by simp; omega]
      simp only [Bool.false_eq_true, if_false, Option.bind_some, vb, if_pos hu]
      rw [wu8, show ((u : Int) % 256) = (u : Int) by omega, app_few (by simp; omega)]
      rfl
    · rw [show decide ((u : Int) ≥ 128) = true by simp; omega]
      have es : shrW .u64 (u : Int) 7 = some ((u / 128 : Nat) : Int) := by
        simp only [shrW]
        rw [if_neg (by omega)]
        congr 1
        have : (2 : Int) ^ min (7 : Int).toNat IntKind.u64.bits = 128 := by decide
        rw [this, Int.fdiv_eq_ediv_of_nonneg _ (by omega)]; omega
      have hk : 0 < k := by
        rcases Nat.eq_zero_or_pos k with h0 | h0
        · subst h0; simp at h; omega
        · exact h0
      simp only [if_true, vb, if_neg hu]
      rw [app_few (by simp; omega), Option.bind_some, es, Option.bind_some, Option.bind_some, or128]
      have := addLoop N k (u / 128) (m ++ [((128 + u % 128 : Nat) : Int)]) f hk (by rw [Nat.pow_succ] at h; omega) (by omega) (by omega) (by simp; omega)
      simpa using this
def vz (x : Int) : List Int := vb 10 (zig x)
theorem vz_len (x : Int) : (vz x).length ≤ 10 := vb_len _ _
theorem vz_B (x : Int) : isB (vz x) := vb_B _ _
theorem zig_pow {x : Int} (h : i64B x) : zig x < 128 ^ 10 := by
  have := zig_lt h
  have e : (128 : Nat) ^ 10 = 1180591620717411303424 := by decide
  omega
theorem add_p {N : Nat} (hN : 1000 ≤ N) {x : Int} (h : i64B x) {m : List Int} (hm : m.length ≤ 10000) : codec_add N x m = some (m ++ vz x) := by
  unfold codec_add
  rw [zigzag_p N h, Option.bind_some]
  exact addLoop N 10 (zig x) m N (by omega) (zig_pow h) (by omega) (zig_lt h) (by omega)
theorem grown_p (N : Nat) {m : List Int} (hm : m.length ≤ 10000) {k : Int} (h0 : 0 ≤ k) (h1 : k ≤ 10000) : codec_grown N m k = some m := by
  unfold codec_grown
  have e : mkL 1 (List.length m : Int) (IntKind.wrap .i64 ((List.length m : Int) + k)) (0 : Int) = some (List.replicate m.length 0) := by
    unfold mkL
    rw [wi64 (by omega) (by omega), if_pos (by omega)]
    simp
  rw [e, Option.bind_some]
  unfold copyL
  have : Nat.min m.length (List.replicate m.length (0 : Int)).length = m.length := by rw [List.length_replicate]; exact Nat.min_self _
  rw [this]
  simp
theorem putNumber_p {N : Nat} (hN : 1000 ≤ N) {x : Int} (h : i64B x) {m : List Int} (hm : m.length ≤ 10000) : codec_PutNumber N m x = some (m ++ vz x) := by
  unfold codec_PutNumber
  rw [grown_p N hm (by omega) (by omega), Option.bind_some, add_p hN h hm]
  rfl
theorem putNumber_p2 {N : Nat} (hN : 1000 ≤ N) {x : Int} (h : i64B x) {m : List Int} (hm : m.length ≤ 10000) : codec_PutNumber_2 N m x = some (m ++ vz x) := by
  unfold codec_PutNumber_2
  rw [grown_p N hm (by omega) (by omega), Option.bind_some, add_p hN h hm]
  rfl
theorem len_i64 {α : Type} {l : List α} (h : l.length ≤ 10000) : i64B (l.length : Int) := ⟨by omega, by omega⟩
theorem putText_p {N : Nat} (hN : 1000 ≤ N) {s : Str} (h : s.length ≤ 1000) {m : List Int} (hm : m.length ≤ 9000) : codec_PutText N m s = some (m ++ vz (s.length : Int) ++ sbytes s) := by
  unfold codec_PutText
  have hl := vz_len (s.length : Int)
  rw [wi64 (by omega) (by omega), grown_p N (by omega) (by omega) (by omega), Option.bind_some, add_p hN (len_i64 (by omega)) (by omega), Option.bind_some, app_few (by simp [sbytes]; omega)]
  rfl
def encR (r : ApiRequest) : List Int := [r.Session, r.Seq, r.Kind, r.At, r.Sub, r.Usage].foldl (fun m x => m ++ vz x) [] ++ vz (r.B.length : Int) ++ sbytes r.B ++ vz r.Used ++ vz r.Ask
def okR6 (r : ApiRequest) : Prop := i64B r.Session ∧ i64B r.Seq ∧ i64B r.Kind ∧ i64B r.At ∧ i64B r.Sub ∧ i64B r.Usage ∧ i64B r.Used ∧ i64B r.Ask ∧ r.B.length ≤ 1000
theorem encR_eq (r : ApiRequest) : encR r = vz r.Session ++ vz r.Seq ++ vz r.Kind ++ vz r.At ++ vz r.Sub ++ vz r.Usage ++ vz (r.B.length : Int) ++ sbytes r.B ++ vz r.Used ++ vz r.Ask := by
  unfold encR; simp
theorem bytes_r {N : Nat} (hN : 1000 ≤ N) {x : Int} (h : i64B x) : billingref07_Bytes N x = some (vz x) := by
  have hv : (if (decide (x < 0)) = true then some (IntKind.wrap .u64 ((IntKind.wrap .u64 (2 * (IntKind.wrap .u64 (IntKind.wrap .i64 (0 - (IntKind.wrap .i64 (x + 1))))))) + 1)) else some (IntKind.wrap .u64 (2 * (IntKind.wrap .u64 x))) : Option Int) = some (zig x : Int) := by
    obtain ⟨h0, h1⟩ := h
    unfold zig
    by_cases hx : x < 0
    · rw [if_pos (by simpa using hx), if_pos hx, wi64 (n := x + 1) (by omega) (by omega), wi64 (by omega) (by omega), wu64, wu64, wu64]
      congr 1; omega
    · rw [if_neg (by simpa using hx), if_neg hx, wu64, wu64]
      congr 1; omega
  have loop : ∀ (k u : Nat) (m : List Int) (fuel : Nat), 0 < k → u < 128 ^ k → k < fuel → u < 2 ^ 64 → m.length + k ≤ 100000 →
      ((loopN (billingref07_Bytes_l1 N) fuel ((u : Int), m)).bind fun (v6, v7) => (app 1 v7 ([(IntKind.wrap .u8 v6)] : (List Int))).bind fun q8 => some q8) = some (m ++ vb k u) := by
    intro k
    induction k with
    | zero => intro u m fuel h0; omega
    | succ k ih =>
      intro u m fuel _ h hf h64 hm
      obtain ⟨f, rfl⟩ : ∃ f, fuel = f + 1 := ⟨fuel - 1, by omega⟩
      simp only [loopN, billingref07_Bytes_l1]
      by_cases hu : u < 128
      · rw [show decide ((u : Int) > 127) = false by simp; omega]
        simp only [Bool.false_eq_true, if_false, Option.bind_some, vb, if_pos hu]
        rw [wu8, show ((u : Int) % 256) = (u : Int) by omega, app_few (by simp; omega)]
        rfl
      · rw [show decide ((u : Int) > 127) = true by simp; omega]
        have hk : 0 < k := by
          rcases Nat.eq_zero_or_pos k with h0 | h0
          · subst h0; simp at h; omega
          · exact h0
        have e1 : IntKind.wrap .u64 (Int.tdiv (u : Int) 128) = ((u / 128 : Nat) : Int) := by
          rw [wu64, Int.tdiv_eq_ediv_of_nonneg (by omega)]; omega
        have e2 : IntKind.wrap .u8 (IntKind.wrap .u64 (128 + (Int.tmod (u : Int) 128))) = ((128 + u % 128 : Nat) : Int) := by
          rw [wu8, wu64, Int.tmod_eq_emod_of_nonneg (by omega)]; omega
        simp only [if_true, vb, if_neg hu]
        rw [e1, e2, app_few (by simp; omega), Option.bind_some, Option.bind_some]
        have := ih (u / 128) (m ++ [((128 + u % 128 : Nat) : Int)]) f hk (by rw [Nat.pow_succ] at h; omega) (by omega) (by omega) (by simp; omega)
        simpa using this
  unfold billingref07_Bytes
  rw [hv, Option.bind_some]
  have := loop 10 (zig x) [] N (by omega) (zig_pow h) (by omega) (zig_lt h) (by simp)
  simpa [vz] using this
theorem join_r {N : Nat} {a b : List Int} (h : a.length + b.length ≤ 50000) : billingref07_join N a b = some (a ++ b) := by
  unfold billingref07_join
  rw [app_few (by simp; omega), Option.bind_some, app_few (by simp; omega)]
  rfl
theorem putNumber_r {N : Nat} (hN : 1000 ≤ N) {x : Int} (h : i64B x) {m : List Int} (hm : m.length ≤ 10000) : billingref07_PutNumber N m x = some (m ++ vz x) := by
  have hl := vz_len x
  unfold billingref07_PutNumber
  rw [bytes_r hN h, Option.bind_some, join_r (by omega)]
  rfl
theorem putText_r {N : Nat} (hN : 1000 ≤ N) {s : Str} (h : s.length ≤ 1000) {m : List Int} (hm : m.length ≤ 9000) : billingref07_PutText N m s = some (m ++ vz (s.length : Int) ++ sbytes s) := by
  have hl := vz_len (s.length : Int)
  unfold billingref07_PutText
  rw [putNumber_r hN (len_i64 (by omega)) (by omega), Option.bind_some, app_few (by simp [sbytes]; omega), Option.bind_some, join_r (by simp [sbytes]; omega)]
  rfl
theorem encode_r {N : Nat} (hN : 1000 ≤ N) {r : ApiRequest} (h : okR6 r) : billingref42_Encode N r = some (encR r) := by
  obtain ⟨h1, h2, h3, h4, h5, h6, h7, h8, h9⟩ := h
  have l1 := vz_len r.Session; have l2 := vz_len r.Seq; have l3 := vz_len r.Kind; have l4 := vz_len r.At; have l5 := vz_len r.Sub; have l6 := vz_len r.Usage
  have l7 := vz_len (r.B.length : Int); have l8 := vz_len r.Used
  unfold billingref42_Encode
  rw [putNumber_r hN h1 (by simp), Option.bind_some, putNumber_r hN h2 (by simp; omega), Option.bind_some, putNumber_r hN h3 (by simp; omega), Option.bind_some, putNumber_r hN h4 (by simp; omega), Option.bind_some,
    putNumber_r hN h5 (by simp; omega), Option.bind_some, putNumber_r hN h6 (by simp; omega), Option.bind_some, putText_r hN h9 (by simp; omega), Option.bind_some,
    putNumber_r hN h7 (by simp [sbytes]; omega), Option.bind_some, putNumber_r hN h8 (by simp [sbytes]; omega), Option.bind_some, encR_eq]
  simp
theorem encLoop {N : Nat} (hN : 1000 ≤ N) {r : ApiRequest} (h : okR6 r) : loopN (journal_Encode_l1 N r) N (0, ([] : List Int)) = some ([r.Session, r.Seq, r.Kind, r.At, r.Sub, r.Usage].foldl (fun m x => m ++ vz x) []) := by
  obtain ⟨h1, h2, h3, h4, h5, h6, h7, h8, h9⟩ := h
  have l1 := vz_len r.Session; have l2 := vz_len r.Seq; have l3 := vz_len r.Kind; have l4 := vz_len r.At; have l5 := vz_len r.Sub; have l6 := vz_len r.Usage
  have step : ∀ (i : Nat) (x : Int) (m : List Int) (f : Nat), [r.Session, r.Seq, r.Kind, r.At, r.Sub, r.Usage][i]? = some x → i64B x → m.length ≤ 10000 → loopN (journal_Encode_l1 N r) (f + 1) ((i : Int), m) = loopN (journal_Encode_l1 N r) f (((i + 1 : Nat) : Int), m ++ vz x) := by
    intro i x m f hx hxB hm
    have hi : i < 6 := by have := (List.getElem?_eq_some_iff.1 hx).1; simpa using this
    conv => lhs; unfold loopN
    simp only [journal_Encode_l1]
    rw [if_pos (by simp; omega)]
    have hix : idx [r.Session, r.Seq, r.Kind, r.At, r.Sub, r.Usage] (i : Int) = some x := by
      unfold idx; rw [if_pos (by omega)]; simpa using hx
    rw [hix, Option.bind_some, putNumber_p hN hxB hm, Option.bind_some, wi64 (by omega) (by omega)]
    rfl
  obtain ⟨f, rfl⟩ : ∃ f, N = f + 7 := ⟨N - 7, by omega⟩
  have e0 := step 0 r.Session [] (f + 6) rfl h1 (by simp)
  have e1 := step 1 r.Seq (vz r.Session) (f + 5) rfl h2 (by omega)
  have e2 := step 2 r.Kind (vz r.Session ++ vz r.Seq) (f + 4) rfl h3 (by simp; omega)
  have e3 := step 3 r.At (vz r.Session ++ vz r.Seq ++ vz r.Kind) (f + 3) rfl h4 (by simp; omega)
  have e4 := step 4 r.Sub (vz r.Session ++ vz r.Seq ++ vz r.Kind ++ vz r.At) (f + 2) rfl h5 (by simp; omega)
  have e5 := step 5 r.Usage (vz r.Session ++ vz r.Seq ++ vz r.Kind ++ vz r.At ++ vz r.Sub) (f + 1) rfl h6 (by simp; omega)
  refine (e0.trans ?_)
  rw [List.nil_append]
  refine e1.trans (e2.trans (e3.trans (e4.trans (e5.trans ?_))))
  conv => lhs; unfold loopN
  simp only [journal_Encode_l1]
  rw [if_neg (by simp)]
  simp
theorem encode_p {N : Nat} (hN : 1000 ≤ N) {r : ApiRequest} (h : okR6 r) : journal_Encode N r = some (encR r) := by
  have hl := encLoop hN h
  obtain ⟨h1, h2, h3, h4, h5, h6, h7, h8, h9⟩ := h
  have l1 := vz_len r.Session; have l2 := vz_len r.Seq; have l3 := vz_len r.Kind; have l4 := vz_len r.At; have l5 := vz_len r.Sub; have l6 := vz_len r.Usage
  have l7 := vz_len (r.B.length : Int); have l8 := vz_len r.Used
  unfold journal_Encode
  rw [hl, Option.bind_some, putText_p hN h9 (by simp; omega), Option.bind_some, putNumber_p2 hN h7 (by simp [sbytes]; omega), Option.bind_some, putNumber_p hN h8 (by simp [sbytes]; omega), Option.bind_some]
  rfl
end Gx
namespace Gx
open Go Gd
set_option linter.unusedVariables false
set_option linter.unusedSimpArgs false
def sc : Nat → List Int → Int × Nat × List Int
  | _, [] => (2, 0, [])
  | i, b :: t => if (i = 9 ∧ b ≠ 1) ∨ (0 < i ∧ b = 0) then (1, 0, []) else if b < 128 then (0, b.toNat, t) else ((sc (i + 1) t).1, (b - 128).toNat + 128 * (sc (i + 1) t).2.1, (sc (i + 1) t).2.2)
theorem isB_tail {b : Int} {t : List Int} (h : isB (b :: t)) : isB t := fun x hx => h x (.tail _ hx)
theorem sc_vb : ∀ (i u : Nat) (t : List Int), i ≤ 9 → u < 2 ^ (64 - 7 * i) → (0 < i → 0 < u) → sc i (vb (10 - i) u ++ t) = (0, u, t)
  | i, u, t, hi, hu, h0 => by
    obtain ⟨k, hk⟩ : ∃ k, 10 - i = k + 1 := ⟨9 - i, by omega⟩
    rw [hk]
    simp only [vb]
    have hu9 : i = 9 → u < 2 := fun e => by subst e; simpa using hu
    by_cases c : u < 128
    · rw [if_pos c]
      simp only [List.cons_append, List.nil_append, sc]
      rw [if_neg (by omega), if_pos (by omega)]
      simp
    · rw [if_neg c]
      have h8 : i ≤ 8 := by
        rcases Nat.lt_or_ge i 9 with q | q
        · omega
        · have := hu9 (by omega); omega
      have hp : (2 : Nat) ^ (64 - 7 * i) = 128 * 2 ^ (64 - 7 * (i + 1)) := by
        rw [show 64 - 7 * i = 7 + (64 - 7 * (i + 1)) by omega, Nat.pow_add]
      have ih := sc_vb (i + 1) (u / 128) t (by omega) (by omega) (fun _ => by omega)
      rw [show 10 - (i + 1) = k by omega] at ih
      simp only [List.cons_append, sc]
      rw [if_neg (by omega), if_neg (by omega), ih]
      simp only [Prod.mk.injEq, true_and, and_true]
      omega
termination_by i _ _ => 10 - i
theorem pow64 {i : Nat} (hi : i ≤ 9) : 128 ^ i * 2 ^ (64 - 7 * i) = 2 ^ 64 := by
  rw [show (128 : Nat) ^ i = 2 ^ (7 * i) by rw [show (128 : Nat) = 2 ^ 7 by decide, ← Nat.pow_mul], ← Nat.pow_add]
  congr 1; omega
theorem sc_bad {i : Nat} {b : Int} {t : List Int} (h : (i = 9 ∧ b ≠ 1) ∨ (0 < i ∧ b = 0)) : sc i (b :: t) = (1, 0, []) := by simp only [sc]; rw [if_pos h]
theorem sc_last {i : Nat} {b : Int} {t : List Int} (h : ¬((i = 9 ∧ b ≠ 1) ∨ (0 < i ∧ b = 0))) (h2 : b < 128) : sc i (b :: t) = (0, b.toNat, t) := by simp only [sc]; rw [if_neg h, if_pos h2]
theorem sc_more {i : Nat} {b : Int} {t : List Int} (h : ¬((i = 9 ∧ b ≠ 1) ∨ (0 < i ∧ b = 0))) (h2 : ¬ b < 128) : sc i (b :: t) = ((sc (i + 1) t).1, (b - 128).toNat + 128 * (sc (i + 1) t).2.1, (sc (i + 1) t).2.2) := by simp only [sc]; rw [if_neg h, if_neg h2]
end Gx
namespace Gx
open Go Gd
set_option linter.unusedVariables false
set_option linter.unusedSimpArgs false
def pnG (r : Int × Nat × List Int) : Int × Int × List Int := if r.1 = 0 then (unz r.2.1, 0, r.2.2) else (0, r.1, [])
def pn (l : List Int) : Int × Int × List Int := pnG (sc 0 l)
def pnV (v i : Nat) (r : Int × Nat × List Int) : Int × Int × List Int := if r.1 = 0 then (unz (v + 128 ^ i * r.2.1), 0, r.2.2) else (0, r.1, [])
theorem refLoop (N : Nat) (x0 : List Int) (hlen : x0.length ≤ 10000) : ∀ (l : List Int) (i v fuel : Nat), x0.drop i = l → isB l → i ≤ 9 → v < 128 ^ i → l.length < fuel → i ≤ x0.length → loopN (billingref07_Number_l1 N x0) fuel ((v : Int), ((128 ^ i : Nat) : Int), (i : Int)) = some (.inr (pnV v i (sc i l)))
  | [], i, v, fuel, hd, _, hi, hv, hf, hix => by
    obtain ⟨f, rfl⟩ : ∃ f, fuel = f + 1 := ⟨fuel - 1, by simp at hf; omega⟩
    have hge : x0.length = i := by
      have := congrArg List.length hd
      simp at this; omega
    simp only [loopN, billingref07_Number_l1]
    rw [if_pos (by simp; omega), if_pos (by simp; omega)]
    simp [pnV, sc]
  | b :: t, i, v, fuel, hd, hB, hi, hv, hf, hix => by
    obtain ⟨f, rfl⟩ : ∃ f, fuel = f + 1 := ⟨fuel - 1, by simp at hf; omega⟩
    have hb := hB b (.head _)
    have hlt : i < x0.length := by
      have := congrArg List.length hd
      simp at this; omega
    have hx : idx x0 (i : Int) = some b := by
      unfold idx
      rw [if_pos (by omega)]
      have := congrArg (fun l => l[0]?) hd
      simpa using this
    have hd2 : x0.drop (i + 1) = t := by
      have := congrArg List.tail hd
      simpa using this
    have ewb : IntKind.wrap .u64 b = b := by rw [wu64]; omega
    simp only [loopN, billingref07_Number_l1]
    rw [if_pos (by simp; omega), if_neg (by simp; omega), hx, Option.bind_some]
    simp only [ewb]
    by_cases c1 : (i = 9 ∧ b ≠ 1) ∨ (0 < i ∧ b = 0)
    · rw [sc_bad c1, if_pos (by simp; omega)]
      simp [pnV]
    · rw [if_neg (by simp; omega)]
      have h9 : i = 9 → b = 1 := fun e => by omega
      have hp := pow64 hi
      have hbm : b.toNat % 128 < 2 ^ (64 - 7 * i) := by
        by_cases e9 : i = 9
        · rw [h9 e9, e9]; decide
        · have h7 : (2 : Nat) ^ 7 ≤ 2 ^ (64 - 7 * i) := Nat.pow_le_pow_right (by omega) (by omega)
          have : (2 : Nat) ^ 7 = 128 := by decide
          omega
      have hmul : v + b.toNat % 128 * 128 ^ i < 2 ^ 64 := by
        have h1 : (b.toNat % 128 + 1) * 128 ^ i ≤ 2 ^ (64 - 7 * i) * 128 ^ i := Nat.mul_le_mul_right _ hbm
        rw [Nat.mul_comm (2 ^ (64 - 7 * i)), hp, Nat.add_mul, Nat.one_mul] at h1
        omega
      have ev : IntKind.wrap .u64 ((v : Int) + (IntKind.wrap .u64 ((Int.tmod b 128) * ((128 ^ i : Nat) : Int)))) = ((v + b.toNat % 128 * 128 ^ i : Nat) : Int) := by
        have e4 : Int.tmod b 128 = ((b.toNat % 128 : Nat) : Int) := by rw [Int.tmod_eq_emod_of_nonneg hb.1]; omega
        rw [e4, ← Int.natCast_mul, wu64, wu64]; omega
      simp only [ev]
      generalize hw : v + b.toNat % 128 * 128 ^ i = u at *
      by_cases c2 : b < 128
      · rw [sc_last c1 c2, if_neg (by simp; omega)]
        have e1 : IntKind.wrap .i64 ((i : Int) + 1) = ((i + 1 : Nat) : Int) := by rw [wi64 (by omega) (by omega)]; omega
        have es : slc x0 (IntKind.wrap .i64 ((i : Int) + 1)) (List.length x0 : Int) = some t := by
          rw [e1]
          unfold slc
          rw [if_pos ⟨by omega, by omega, by omega⟩, Int.toNat_natCast, hd2, List.take_of_length_le]
          have := congrArg List.length hd2
          simp at this; omega
        rw [es, Option.bind_some, join_r (by simp; simp at hf; have := congrArg List.length hd2; simp at this; omega)]
        simp only [Option.bind_some, List.nil_append]
        have e2 : b.toNat % 128 = b.toNat := by omega
        rw [e2, Nat.mul_comm b.toNat] at hw
        have et : Int.tmod (u : Int) 2 = ((u % 2 : Nat) : Int) := by rw [Int.tmod_eq_emod_of_nonneg (by omega)]; omega
        have ed : IntKind.wrap .i64 (IntKind.wrap .u64 (Int.tdiv (u : Int) 2)) = ((u / 2 : Nat) : Int) := by
          rw [wu64, Int.tdiv_eq_ediv_of_nonneg (by omega), wi64 (by omega) (by omega)]; omega
        rw [et]
        simp only [pnV, if_true]
        rw [hw]
        unfold unz
        by_cases hpar : u % 2 = 0
        · rw [if_neg (by rw [hpar]; decide), if_pos hpar, ed]
          rfl
        · have h1 : u % 2 = 1 := by omega
          rw [if_pos (by rw [h1]; decide), if_neg hpar, ed, wi64 (n := 0 - ((u / 2 : Nat) : Int)) (by omega) (by omega), wi64 (by omega) (by omega)]
          simp only [Option.bind_some, Option.some.injEq, Sum.inr.injEq, Prod.mk.injEq, and_true]
          omega
      · rw [sc_more c1 c2, if_pos (by simp; omega)]
        have h8 : i ≤ 8 := by omega
        have hv2 : u < 128 ^ (i + 1) := by
          have h1 : (b.toNat % 128 + 1) * 128 ^ i ≤ 128 * 128 ^ i := Nat.mul_le_mul_right _ (by omega)
          rw [Nat.add_mul, Nat.one_mul] at h1
          rw [Nat.pow_succ, Nat.mul_comm (128 ^ i)]; omega
        have ih := refLoop N x0 hlen t (i + 1) u f hd2 (isB_tail hB) (by omega) hv2 (by simp at hf; omega) (by omega)
        have ep : IntKind.wrap .u64 (((128 ^ i : Nat) : Int) * 128) = ((128 ^ (i + 1) : Nat) : Int) := by
          have : (128 : Nat) ^ (i + 1) ≤ 128 ^ 9 := Nat.pow_le_pow_right (by omega) (by omega)
          have e9 : (128 : Nat) ^ 9 = 9223372036854775808 := by decide
          rw [wu64]
          rw [Nat.pow_succ] at this ⊢
          omega
        simp only [Option.bind_some]
        rw [wi64 (n := (i : Int) + 1) (by omega) (by omega), ep]
        refine (Eq.trans ?_ (ih.trans ?_))
        · rfl
        · unfold pnV
          simp only
          have hb2 : b.toNat % 128 = (b - 128).toNat := by omega
          have e5 : u + 128 ^ (i + 1) * (sc (i + 1) t).2.1 = v + 128 ^ i * ((b - 128).toNat + 128 * (sc (i + 1) t).2.1) := by
            rw [← hw, hb2, Nat.pow_succ, Nat.mul_add, Nat.mul_comm (b - 128).toNat, Nat.mul_assoc, Nat.add_assoc]
          rw [e5]
theorem number_r10 {N : Nat} (hN : 20000 ≤ N) {l : List Int} (hB : isB l) (hl : l.length ≤ 10000) : billingref07_Number N l = some (pn l) := by
  unfold billingref07_Number
  have := refLoop N l hl l 0 0 N rfl hB (by omega) (by simp) (by omega) (by omega)
  simp only [Nat.pow_zero] at this
  rw [show loopN (billingref07_Number_l1 N l) N (0, 1, 0) = _ from this, Option.bind_some]
  unfold pn pnG pnV
  simp
theorem pn_vz {x : Int} (h : i64B x) (t : List Int) : pn (vz x ++ t) = (x, 0, t) := by
  have := sc_vb 0 (zig x) t (by omega) (zig_lt h) (by omega)
  unfold pn pnG vz
  rw [show (10 : Nat) = 10 - 0 from rfl, this]
  simp [unz_zig]
end Gx
namespace Gx
open Go Gd
set_option linter.unusedVariables false
set_option linter.unusedSimpArgs false
theorem isB_sub {l m : List Int} (h : isB l) (hs : ∀ x ∈ m, x ∈ l) : isB m := fun b hb => h b (hs b hb)
end Gx
namespace Gx
open Go Gd
set_option linter.unusedVariables false
set_option linter.unusedSimpArgs false
theorem gdReq {r : ApiRequest} (g : gd tyApiRequest r) (h : r.B.length ≤ 1000) : okR6 r := by
  obtain ⟨g1, g2, g3, g4, g5, g6, g7, g8, g9⟩ := g
  exact ⟨g1, g2, g3, g4, g5, g6, g8, g9, h⟩
theorem sbytes_len (s : Str) : (sbytes s).length = s.length := by simp [sbytes]
theorem encR_B (r : ApiRequest) : isB (encR r) := by
  have hs : isB (sbytes r.B) := fun b hb => by
    obtain ⟨c, _, rfl⟩ := List.mem_map.1 hb
    have := c.toNat_lt
    omega
  rw [encR_eq]
  exact isB_append (isB_append (isB_append (isB_append (isB_append (isB_append (isB_append (isB_append (isB_append (vz_B _) (vz_B _)) (vz_B _)) (vz_B _)) (vz_B _)) (vz_B _)) (vz_B _)) hs) (vz_B _)) (vz_B _)
theorem encR_len {r : ApiRequest} (h : r.B.length ≤ 100) : (encR r).length ≤ 200 := by
  have l1 := vz_len r.Session; have l2 := vz_len r.Seq; have l3 := vz_len r.Kind; have l4 := vz_len r.At; have l5 := vz_len r.Sub; have l6 := vz_len r.Usage
  have l7 := vz_len (r.B.length : Int); have l8 := vz_len r.Used; have l9 := vz_len r.Ask
  rw [encR_eq]
  simp only [List.length_append, sbytes_len]
  omega
end Gx
namespace Gx
open Go Gd
set_option linter.unusedVariables false
set_option linter.unusedSimpArgs false
def sumS (n b : Int) : Int := IntKind.wrap .u32 ((Go.bits .xor .u32 n (IntKind.wrap .u32 b)) * 16777619)
def sumG (l : List Int) : Int := l.foldl sumS 2166136261
theorem wu32 (n : Int) : IntKind.wrap .u32 n = n % 4294967296 := by simp [IntKind.wrap, IntKind.bits, IntKind.signed]
theorem sumS_range (n b : Int) : 0 ≤ sumS n b ∧ sumS n b < 4294967296 := by unfold sumS; rw [wu32]; omega
theorem foldS_range : ∀ (l : List Int) (n : Int), 0 ≤ n → n < 4294967296 → 0 ≤ l.foldl sumS n ∧ l.foldl sumS n < 4294967296
  | [], n, h0, h1 => ⟨h0, h1⟩
  | b :: l, n, _, _ => foldS_range l (sumS n b) (sumS_range n b).1 (sumS_range n b).2
theorem sumG_range (l : List Int) : 0 ≤ sumG l ∧ sumG l < 4294967296 := foldS_range l _ (by decide) (by decide)
def s4 (n : Int) : List Int := [n / 16777216 % 256, n / 65536 % 256, n / 256 % 256, n % 256]
def frm (p : List Int) : List Int := vz (p.length : Int) ++ s4 (sumG p) ++ p
theorem frm_len (p : List Int) : (frm p).length ≤ p.length + 14 ∧ p.length + 4 ≤ (frm p).length := by
  have := vz_len (p.length : Int)
  simp only [frm, s4, List.length_append, List.length_cons, List.length_nil]; omega
theorem s4_B (n : Int) : isB (s4 n) := by
  intro b hb
  simp only [s4, List.mem_cons, List.not_mem_nil, or_false] at hb
  rcases hb with rfl | rfl | rfl | rfl <;> omega
theorem frm_B {p : List Int} (h : isB p) : isB (frm p) := isB_append (isB_append (vz_B _) (s4_B _)) h
theorem shr32 {n : Int} (h0 : 0 ≤ n) (h1 : n < 4294967296) : shrW .u32 n 24 = some (n / 16777216) ∧ shrW .u32 n 16 = some (n / 65536) ∧ shrW .u32 n 8 = some (n / 256) := by
  have e24 : (2 : Int) ^ min (24 : Int).toNat IntKind.u32.bits = 16777216 := by decide
  have e16 : (2 : Int) ^ min (16 : Int).toNat IntKind.u32.bits = 65536 := by decide
  have e8 : (2 : Int) ^ min (8 : Int).toNat IntKind.u32.bits = 256 := by decide
  refine ⟨?_, ?_, ?_⟩ <;> simp only [shrW] <;> rw [if_neg (by omega)] <;> congr 1
  · rw [e24, Int.fdiv_eq_ediv_of_nonneg _ (by omega)]
  · rw [e16, Int.fdiv_eq_ediv_of_nonneg _ (by omega)]
  · rw [e8, Int.fdiv_eq_ediv_of_nonneg _ (by omega)]
def cat (l : List (List Int)) : List Int := l.flatMap frm
theorem cat_snoc (l : List (List Int)) (p : List Int) : cat (l ++ [p]) = cat l ++ frm p := by simp [cat]
theorem cat_cons (p : List Int) (l : List (List Int)) : cat (p :: l) = frm p ++ cat l := by simp [cat]
theorem cat_append (l m : List (List Int)) : cat (l ++ m) = cat l ++ cat m := by simp [cat]
def torn (q : List Int) : Prop := ∃ p, isB p ∧ p.length ≤ 200 ∧ q <+: frm p ∧ q.length < (frm p).length
theorem torn_nil : torn [] := ⟨[], fun b hb => by simp at hb, by simp, List.nil_prefix, by have := (frm_len []).2; simp at this ⊢; omega⟩
theorem torn_B {q : List Int} (h : torn q) : isB q := by
  obtain ⟨p, hp, _, hq, _⟩ := h
  exact isB_sub (frm_B hp) fun x hx => hq.subset hx
theorem torn_len {q : List Int} (h : torn q) : q.length ≤ 214 := by
  obtain ⟨p, _, hp, _, hq⟩ := h
  have := (frm_len p).1
  omega
theorem torn_take {q : List Int} (h : torn q) (n : Nat) : torn (q.take n) := by
  obtain ⟨p, h1, h2, h3, h4⟩ := h
  exact ⟨p, h1, h2, (List.take_prefix n q).trans h3, by rw [List.length_take]; omega⟩
theorem torn_frm {p : List Int} (hp : isB p) (hl : p.length ≤ 200) {n : Nat} (hn : n < (frm p).length) : torn ((frm p).take n) :=
  ⟨p, hp, hl, List.take_prefix _ _, by rw [List.length_take]; omega⟩
def pays (l : List (List Int)) : Prop := ∀ p ∈ l, isB p ∧ p.length ≤ 200
theorem cat_len : ∀ {l : List (List Int)}, pays l → (cat l).length ≤ 214 * l.length
  | [], _ => by simp [cat]
  | p :: l, h => by
    rw [cat_cons, List.length_append, List.length_cons]
    have h1 := (frm_len p).1
    have h2 := (h p (.head _)).2
    have h3 := cat_len (l := l) fun q hq => h q (.tail _ hq)
    omega
theorem cat_B {l : List (List Int)} (h : pays l) : isB (cat l) := by
  intro b hb
  simp only [cat, List.mem_flatMap] at hb
  obtain ⟨p, hp, hb⟩ := hb
  exact frm_B (h p hp).1 b hb
theorem cut_frames : ∀ (l : List (List Int)) (q : List Int) (n : Nat), pays l → torn q → n ≤ (cat l ++ q).length →
    ∃ k q', k ≤ l.length ∧ torn q' ∧ (cat l ++ q).take n = cat (l.take k) ++ q' ∧ (cat (l.take k)).length ≤ n ∧ (k < l.length → n < (cat (l.take (k + 1))).length)
  | [], q, n, _, hq, hn => ⟨0, q.take n, Nat.le_refl _, torn_take hq n, by simp [cat], by simp [cat], fun h => by simp at h⟩
  | p :: l, q, n, hl, hq, hn => by
    have hp := hl p (.head _)
    rcases Nat.lt_or_ge n (frm p).length with h | h
    · refine ⟨0, (frm p).take n, by simp, torn_frm hp.1 hp.2 h, ?_, by simp [cat], fun _ => by simpa [cat] using h⟩
      rw [cat_cons, List.append_assoc, List.take_append_of_le_length (by omega)]
      simp [cat]
    · obtain ⟨k, q', h1, h2, h3, h4, h5⟩ := cut_frames l q (n - (frm p).length) (fun x hx => hl x (.tail _ hx)) hq (by rw [cat_cons] at hn; simp only [List.length_append] at hn ⊢; omega)
      refine ⟨k + 1, q', by simp; omega, h2, ?_, ?_, fun hk => ?_⟩
      · rw [cat_cons, List.append_assoc, List.take_append, List.take_of_length_le h, h3]
        simp [cat_cons]
      · simp only [List.take_succ_cons, cat_cons, List.length_append]; omega
      · have := h5 (by simp at hk; omega)
        simp only [List.take_succ_cons, cat_cons, List.length_append]; omega
end Gx
namespace Gx
open Go Gd
set_option linter.unusedVariables false
set_option linter.unusedSimpArgs false
theorem sumP {N : Nat} {x : List Int} (hl : x.length < N) (hm : x.length ≤ 100000) : frame_Sum N x = some (sumG x) := by
  unfold frame_Sum
  rw [loop_list x (Nat.le_trans hm (by decide)) (f := frame_Sum_l1 N x) (fun s i => (s, i)) (fun _ _ => True) (fun s l => l.foldl sumS s) ?_ ?_ hl trivial (s := 2166136261)]
  · rfl
  · intro s _ h
    simp only [frame_Sum_l1]
    rw [h]; rfl
  · intro s i b xs h1 h2 h3 h4 h5 _
    left
    refine ⟨sumS s b, ?_, trivial, rfl⟩
    simp only [frame_Sum_l1]
    rw [if_pos h2, h3, Option.bind_some, h4]
    rfl
theorem sumR {N : Nat} {x : List Int} (hl : x.length < N) (hm : x.length ≤ 100000) : billingref08_Sum N x = some (sumG x) := by
  rw [← sumP hl hm]; rfl
theorem wrap_p {N : Nat} (hN : 1000 ≤ N) {p : List Int} (hp : isB p) (hl : p.length ≤ 200) : frame_Wrap N p = some (0, frm p) := by
  unfold frame_Wrap
  have hv := vz_len (p.length : Int)
  rw [if_neg (by simp; omega)]
  have e1 : mkL 1 0 (IntKind.wrap .i64 ((List.length p : Int) + 14)) (0 : Int) = some [] := by
    unfold mkL
    rw [wi64 (by omega) (by omega), if_pos (by omega)]
    rfl
  rw [e1, Option.bind_some]
  unfold frame_wrap_v2
  obtain ⟨r0, r1⟩ := sumG_range p
  obtain ⟨s1, s2, s3⟩ := shr32 r0 r1
  rw [sumP (by omega) (by omega), Option.bind_some, putNumber_p hN (len_i64 (by omega)) (by simp), Option.bind_some, app_few (by simp; omega), Option.bind_some, s1, Option.bind_some, s2, Option.bind_some, s3, Option.bind_some,
    app_few (by simp; omega), Option.bind_some, app_few (by simp; omega), Option.bind_some, wu8, wu8, wu8, wu8]
  rfl
theorem wrap_r {N : Nat} (hN : 1000 ≤ N) {p : List Int} (hp : isB p) (hl : p.length ≤ 200) : billingref08_Wrap N p = some (0, frm p) := by
  unfold billingref08_Wrap
  have hv := vz_len (p.length : Int)
  rw [if_neg (by simp; omega)]
  obtain ⟨r0, r1⟩ := sumG_range p
  obtain ⟨s1, s2, s3⟩ := shr32 r0 r1
  rw [sumR (by omega) (by omega), Option.bind_some, putNumber_r hN (len_i64 (by omega)) (by simp), Option.bind_some, s1, Option.bind_some, s2, Option.bind_some, s3, Option.bind_some,
    app_few (by simp; omega), Option.bind_some, app_few (by simp; omega), wu8, wu8, wu8, wu8]
  rfl
theorem shl32 {n : Int} : shlW .u32 n 24 = some (n * 16777216 % 4294967296) ∧ shlW .u32 n 16 = some (n * 65536 % 4294967296) ∧ shlW .u32 n 8 = some (n * 256 % 4294967296) := by
  have e24 : (2 : Int) ^ min (24 : Int).toNat IntKind.u32.bits = 16777216 := by decide
  have e16 : (2 : Int) ^ min (16 : Int).toNat IntKind.u32.bits = 65536 := by decide
  have e8 : (2 : Int) ^ min (8 : Int).toNat IntKind.u32.bits = 256 := by decide
  refine ⟨?_, ?_, ?_⟩ <;> simp only [shlW] <;> rw [if_neg (by omega), wu32]
  · rw [e24]
  · rw [e16]
  · rw [e8]
theorem unwrap_frm {N : Nat} (hN : 20000 ≤ N) {p t : List Int} (hp : isB p) (ht : isB t) (hl : p.length ≤ 200) (hlt : (frm p ++ t).length ≤ 10000) : billingref08_Unwrap N (frm p ++ t) = some (0, p, t) := by
  have hB : isB (frm p ++ t) := isB_append (frm_B hp) ht
  have hpn : pn (frm p ++ t) = ((p.length : Int), 0, s4 (sumG p) ++ p ++ t) := by
    unfold frm
    rw [List.append_assoc, List.append_assoc, pn_vz (len_i64 (by omega)), List.append_assoc]
  have htl : t.length ≤ 10000 := by simp only [List.length_append] at hlt; omega
  unfold billingref08_Unwrap
  rw [number_r10 hN hB hlt, hpn, Option.bind_some]
  simp only
  rw [if_neg (by simp), if_neg (by simp), if_neg (by simp; omega), wi64 (by omega) (by omega)]
  rw [if_neg (by simp [s4]; omega)]
  have hs : slc (s4 (sumG p) ++ p ++ t) 4 (4 + (p.length : Int)) = some p := by
    unfold slc
    rw [if_pos (by simp [s4]; omega)]
    have : (4 + (p.length : Int) - 4).toNat = p.length := by omega
    rw [this]
    show some (List.take p.length (List.drop 4 (s4 (sumG p) ++ p ++ t))) = some p
    simp [s4]
  rw [hs, Option.bind_some, app_few (by simp; omega), Option.bind_some]
  obtain ⟨r0, r1⟩ := sumG_range p
  have i0 : idx (s4 (sumG p) ++ p ++ t) 0 = some (sumG p / 16777216 % 256) := rfl
  have i1 : idx (s4 (sumG p) ++ p ++ t) 1 = some (sumG p / 65536 % 256) := rfl
  have i2 : idx (s4 (sumG p) ++ p ++ t) 2 = some (sumG p / 256 % 256) := rfl
  have i3 : idx (s4 (sumG p) ++ p ++ t) 3 = some (sumG p % 256) := rfl
  rw [i0, Option.bind_some, shl32.1, Option.bind_some, i1, Option.bind_some, shl32.2.1, Option.bind_some, i2, Option.bind_some, shl32.2.2, Option.bind_some, i3, Option.bind_some, List.nil_append, sumR (by omega) (by omega), Option.bind_some]
  have e : IntKind.wrap .u32 (IntKind.wrap .u32 (IntKind.wrap .u32 (IntKind.wrap .u32 (sumG p / 16777216 % 256) * 16777216 % 4294967296 + IntKind.wrap .u32 (sumG p / 65536 % 256) * 65536 % 4294967296) + IntKind.wrap .u32 (sumG p / 256 % 256) * 256 % 4294967296) + IntKind.wrap .u32 (sumG p % 256)) = sumG p := by
    simp only [wu32]; omega
  rw [e, if_neg (by simp)]
  have hd : slc (s4 (sumG p) ++ p ++ t) (4 + (p.length : Int)) (List.length (s4 (sumG p) ++ p ++ t) : Int) = some t := by
    unfold slc
    rw [if_pos (by simp [s4]; omega)]
    have h1 : (4 + (p.length : Int)).toNat = (s4 (sumG p) ++ p).length := by simp [s4]; omega
    rw [h1, List.drop_left, List.take_of_length_le (by simp [s4]; omega)]
  rw [hd, Option.bind_some, app_few (by simp; omega)]
  rfl
theorem sc_torn : ∀ (i u : Nat) (q : List Int), i ≤ 9 → u < 2 ^ (64 - 7 * i) → (0 < i → 0 < u) → q <+: vb (10 - i) u → q.length < (vb (10 - i) u).length → (sc i q).1 = 2
  | i, u, [], _, _, _, _, _ => rfl
  | i, u, b :: q, hi, hu, h0, hq, hl => by
    obtain ⟨k, hk⟩ : ∃ k, 10 - i = k + 1 := ⟨9 - i, by omega⟩
    rw [hk] at hq hl
    simp only [vb] at hq hl
    by_cases c : u < 128
    · rw [if_pos c] at hl; simp at hl
    · rw [if_neg c] at hq hl
      obtain ⟨hb, hq'⟩ := List.cons_prefix_cons.1 hq
      have hu9 : i = 9 → u < 2 := fun e => by subst e; simpa using hu
      have h8 : i ≤ 8 := by
        rcases Nat.lt_or_ge i 9 with q | q
        · omega
        · have := hu9 (by omega); omega
      have hp : (2 : Nat) ^ (64 - 7 * i) = 128 * 2 ^ (64 - 7 * (i + 1)) := by
        rw [show 64 - 7 * i = 7 + (64 - 7 * (i + 1)) by omega, Nat.pow_add]
      have ih := sc_torn (i + 1) (u / 128) q (by omega) (by omega) (fun _ => by omega) (by rw [show 10 - (i + 1) = k by omega]; exact hq') (by rw [show 10 - (i + 1) = k by omega]; simpa using hl)
      rw [hb, sc_more (by omega) (by omega)]
      exact ih
theorem vz_torn {x : Int} (h : i64B x) {q : List Int} (hq : q <+: vz x) (hl : q.length < (vz x).length) : pn q = (0, 2, []) := by
  have := sc_torn 0 (zig x) q (by omega) (zig_lt h) (by omega) hq hl
  unfold pn pnG
  rw [if_neg (by omega), this]
theorem unwrap_torn {N : Nat} (hN : 20000 ≤ N) {q : List Int} (h : torn q) : ∃ e a b, billingref08_Unwrap N q = some (e, a, b) ∧ e ≠ 0 := by
  have hB := torn_B h
  have hlen := torn_len h
  obtain ⟨p, hp, hl, hq, hlt⟩ := h
  unfold billingref08_Unwrap
  rw [number_r10 hN hB (by omega), Option.bind_some]
  have hf : frm p = vz (p.length : Int) ++ (s4 (sumG p) ++ p) := by unfold frm; simp
  rw [hf] at hq hlt
  rcases Nat.lt_or_ge q.length (vz (p.length : Int)).length with hc | hc
  · have hq2 : q <+: vz (p.length : Int) := List.prefix_of_prefix_length_le hq (List.prefix_append _ _) (by omega)
    rw [vz_torn (len_i64 (by omega)) hq2 hc]
    exact ⟨2, [], [], by simp, by decide⟩
  · obtain ⟨r, hr⟩ : ∃ r, q = vz (p.length : Int) ++ r := by
      obtain ⟨r, hr⟩ := List.prefix_of_prefix_length_le (List.prefix_append _ _) hq hc
      exact ⟨r, hr.symm⟩
    subst hr
    rw [pn_vz (len_i64 (by omega))]
    simp only
    rw [if_neg (by simp), if_neg (by simp), if_neg (by simp; omega), wi64 (by omega) (by omega)]
    have : r.length < 4 + p.length := by
      simp only [List.length_append, s4, List.length_cons, List.length_nil] at hlt; omega
    rw [if_pos (by simp; omega)]
    exact ⟨2, [], [], rfl, by decide⟩
theorem allLoop {N : Nat} (hN : 20000 ≤ N) : ∀ (l : List (List Int)) (q : List Int) (acc : List (List Int)) (f : Nat), pays l → torn q → (cat l ++ q).length ≤ 10000 → acc.length + l.length ≤ 1000 → l.length < f →
    loopN (billingref08_All_2_l1 N) f (acc, cat l ++ q) = some (acc ++ l, q)
  | [], q, acc, f, hl, hq, hc, ha, hf => by
    obtain ⟨f, rfl⟩ : ∃ g, f = g + 1 := ⟨f - 1, by simp at hf; omega⟩
    simp only [loopN, billingref08_All_2_l1, cat, List.flatMap_nil, List.nil_append, List.append_nil]
    by_cases h0 : (List.length q : Int) > 0
    · rw [if_pos (by simpa using h0)]
      obtain ⟨e, a, b, h1, h2⟩ := unwrap_torn hN hq
      rw [h1, Option.bind_some]
      simp only
      rw [if_pos (by simpa using h2)]
      rfl
    · rw [if_neg (by simpa using h0)]
      rfl
  | p :: l, q, acc, f, hl, hq, hc, ha, hf => by
    obtain ⟨f, rfl⟩ : ∃ g, f = g + 1 := ⟨f - 1, by simp at hf; omega⟩
    have hp := hl p (.head _)
    have hl' : pays l := fun x hx => hl x (.tail _ hx)
    have e : cat (p :: l) ++ q = frm p ++ (cat l ++ q) := by rw [cat_cons, List.append_assoc]
    rw [e] at hc ⊢
    simp only [loopN, billingref08_All_2_l1]
    have hpos := (frm_len p).2
    rw [if_pos (by simp; omega), unwrap_frm hN hp.1 (isB_append (cat_B hl') (torn_B hq)) hp.2 hc, Option.bind_some]
    simp only
    rw [if_neg (by simp)]
    have e2 : app 24 acc ([p] : List (List Int)) = some (acc ++ [p]) := by
      unfold app
      simp only [List.length_cons] at ha
      rw [if_pos (by simp; omega)]
    rw [e2, Option.bind_some, Option.bind_some]
    have := allLoop hN l q (acc ++ [p]) f hl' hq (by simp only [List.length_append] at hc ⊢; omega) (by simp at ha ⊢; omega) (by simp at hf; omega)
    simpa using this
theorem all_r {N : Nat} (hN : 20000 ≤ N) {l : List (List Int)} {q : List Int} (hl : pays l) (hq : torn q) (hn : l.length ≤ 40) : billingref08_All_2 N (cat l ++ q) = some (((cat l).length : Int), cat l ++ q, l) := by
  have h1 := cat_len hl
  have h2 := torn_len hq
  unfold billingref08_All_2
  rw [app_few (by simp; omega), Option.bind_some, List.nil_append, allLoop hN l q [] N hl hq (by simp; omega) (by simp; omega) (by omega), Option.bind_some]
  simp only [List.nil_append]
  have e : IntKind.wrap .i64 ((List.length (cat l ++ q) : Int) - (List.length q : Int)) = ((cat l).length : Int) := by
    rw [wi64 (by simp <;> omega) (by simp <;> omega)]
    simp
  rw [e]
end Gx
namespace Gx
open Go Gd
set_option linter.unusedVariables false
set_option linter.unusedSimpArgs false
def endsG : Nat → Nat → List (List Int) → List (Int × Int)
  | _, _, [] => []
  | n, off, p :: l => (((n + 1 : Nat) : Int), ((off + (frm p).length : Nat) : Int)) :: endsG (n + 1) (off + (frm p).length) l
def ends (l : List (List Int)) : List (Int × Int) := endsG 0 0 l
theorem endsG_len : ∀ (n off : Nat) (l : List (List Int)), (endsG n off l).length = l.length
  | _, _, [] => rfl
  | n, off, p :: l => by simp [endsG, endsG_len]
theorem ends_len (l : List (List Int)) : (ends l).length = l.length := endsG_len 0 0 l
theorem endsG_find : ∀ (n off : Nat) (l : List (List Int)) (k : Nat), n < k → k ≤ n + l.length → findL (k := .int .i64) (k : Int) (endsG n off l) = some ((off + (cat (l.take (k - n))).length : Nat) : Int)
  | n, off, [], k, h1, h2 => by simp at h2; omega
  | n, off, p :: l, k, h1, h2 => by
    simp only [endsG, findL, eqK]
    by_cases h : k = n + 1
    · subst h
      have e : n + 1 - n = 1 := by omega
      have eb : (((n + 1 : Nat) : Int) == ((n + 1 : Nat) : Int)) = true := by simp
      rw [eb, e]
      simp [cat]
    · have hb : (((k : Nat) : Int) == ((n + 1 : Nat) : Int)) = false := by simp; omega
      rw [hb]
      simp only [cond_false]
      rw [endsG_find (n + 1) (off + (frm p).length) l k (by omega) (by simp at h2; omega)]
      have e : k - n = (k - (n + 1)) + 1 := by omega
      rw [e, List.take_succ_cons, cat_cons, List.length_append]
      congr 2; omega
theorem endsG_put : ∀ (n off : Nat) (l : List (List Int)) (p : List Int), putL (k := .int .i64) (((n + l.length + 1 : Nat)) : Int) ((off + (cat (l ++ [p])).length : Nat) : Int) (endsG n off l) = endsG n off (l ++ [p])
  | n, off, [], p => by simp [endsG, putL, cat]
  | n, off, q :: l, p => by
    simp only [endsG, putL, eqK, List.cons_append]
    have hb : (((n + (q :: l).length + 1 : Nat) : Int) == ((n + 1 : Nat) : Int)) = false := by simp; omega
    rw [hb]
    simp only [cond_false]
    have := endsG_put (n + 1) (off + (frm q).length) l p
    rw [← this]
    congr 2
    · simp; omega
    · rw [cat_cons, List.length_append]; omega
theorem endsG_del : ∀ (n off : Nat) (l : List (List Int)) (p : List Int), delL (k := .int .i64) (((n + l.length + 1 : Nat)) : Int) (endsG n off (l ++ [p])) = endsG n off l
  | n, off, [], p => by simp [endsG, delL, eqK]
  | n, off, q :: l, p => by
    simp only [endsG, delL, eqK, List.cons_append]
    have hb : (((n + (q :: l).length + 1 : Nat) : Int) == ((n + 1 : Nat) : Int)) = false := by simp; omega
    rw [hb]
    simp only [cond_false]
    have := endsG_del (n + 1) (off + (frm q).length) l p
    rw [← this]
    congr 2
    simp; omega
theorem ends_total (l : List (List Int)) : (findL (k := .int .i64) (List.length (ends l) : Int) (ends l)).getD 0 = ((cat l).length : Int) := by
  rw [ends_len]
  rcases Nat.eq_zero_or_pos l.length with h | h
  · have : l = [] := List.length_eq_zero_iff.1 h
    subst this; rfl
  · unfold ends
    rw [endsG_find 0 0 l l.length h (by omega)]
    simp
structure LogI (n : Nat) (l : List (List Int)) (q : List Int) (safe : Int) : Prop where
  pl : pays l
  tq : torn q
  s0 : 0 ≤ safe
  s1 : safe ≤ ((cat l ++ q).length : Int)
  ln : l.length ≤ n
theorem trimMin (a b : Int) : (if a < b then a else b) = min a b := by
  by_cases h : a < b
  · rw [if_pos h]; omega
  · rw [if_neg h]; omega
theorem trim_p {N : Nat} {l : List (List Int)} {q : List Int} {safe : Int} : journal_Log_trim N safe (cat l ++ q) (ends l) = some (min ((cat l).length : Int) safe, ends l, cat l) := by
  unfold journal_Log_trim
  rw [ends_total]
  have e : slc (cat l ++ q) 0 ((cat l).length : Int) = some (cat l) := by
    unfold slc
    rw [if_pos (by simp; omega)]
    simp
  rw [e, Option.bind_some, trimMin]
theorem trim_r {N : Nat} (hN : 20000 ≤ N) {l : List (List Int)} {q : List Int} {safe : Int} (hl : pays l) (hq : torn q) (hn : l.length ≤ 40) : billingref42_Log_trim N safe (cat l ++ q) = some ((l.length : Int), min ((cat l).length : Int) safe, cat l) := by
  unfold billingref42_Log_trim
  rw [all_r hN hl hq hn, Option.bind_some]
  simp only
  have e1 : chk (decide (((cat l).length : Int) ≤ ((cat l).length : Int)) && decide (((cat l).length : Int) ≤ (List.length (cat l ++ q) : Int))) = some () := by
    unfold chk
    have : (decide (((cat l).length : Int) ≤ ((cat l).length : Int)) && decide (((cat l).length : Int) ≤ (List.length (cat l ++ q) : Int))) = true := by simp; omega
    rw [this]; rfl
  have e : slc (cat l ++ q) 0 ((cat l).length : Int) = some (cat l) := by
    unfold slc
    rw [if_pos (by simp; omega)]
    simp
  rw [e1, Option.bind_some, e, Option.bind_some, trimMin]
theorem made_p (N : Nat) (s : Int) (b : List Int) (m : List (Int × Int)) : journal_Log_made N s b m = some (true, s, m, b) := rfl
theorem app_p {N : Nat} (hN : 20000 ≤ N) {r : ApiRequest} (hR : okR6 r) (hr : r.B.length ≤ 100) {l : List (List Int)} {q : List Int} {safe : Int} {n : Nat} (h : LogI n l q safe) (hn : n ≤ 30) :
    journal_Log_Append N r safe (cat l ++ q) (ends l) = some (0, min ((cat l).length : Int) safe, ends (l ++ [encR r]), cat (l ++ [encR r])) := by
  have hel := encR_len hr
  have hc := cat_len h.pl
  have hln := h.ln
  have hf := frm_len (encR r)
  unfold journal_Log_Append
  rw [made_p, Option.bind_some]
  simp only
  rw [if_neg (by simp), encode_p (by omega) hR, Option.bind_some, wrap_p (by omega) (encR_B r) hel, Option.bind_some]
  simp only
  rw [if_neg (by simp), trim_p, Option.bind_some]
  simp only
  rw [app_few (by omega), Option.bind_some, ends_len, wi64 (by omega) (by omega), ← cat_snoc]
  have := endsG_put 0 0 l (encR r)
  simp only [Nat.zero_add] at this
  unfold ends
  rw [← this]
  rfl
theorem encode_r2 {N : Nat} (hN : 1000 ≤ N) {r : ApiRequest} (h : okR6 r) : billingref42_Encode_2 N r = some (encR r) := by
  rw [← encode_r hN h]
  rfl
theorem app_r {N : Nat} (hN : 20000 ≤ N) {r : ApiRequest} (hR : okR6 r) (hr : r.B.length ≤ 100) {l : List (List Int)} {q : List Int} {safe : Int} {n : Nat} (h : LogI n l q safe) (hn : n ≤ 30) :
    billingref42_Log_Append N r safe (cat l ++ q) = some (0, min ((cat l).length : Int) safe, cat (l ++ [encR r])) := by
  have hel := encR_len hr
  have hc := cat_len h.pl
  have hln := h.ln
  have hf := frm_len (encR r)
  unfold billingref42_Log_Append
  rw [encode_r2 (by omega) hR, Option.bind_some, wrap_r (by omega) (encR_B r) hel, Option.bind_some]
  simp only
  rw [if_neg (by simp), trim_r hN h.pl h.tq (by omega), Option.bind_some]
  simp only
  rw [app_few (by omega), Option.bind_some, ← cat_snoc]
theorem pays_snoc {l : List (List Int)} {r : ApiRequest} (hl : pays l) (hr : r.B.length ≤ 100) : pays (l ++ [encR r]) := by
  intro p hp
  rcases List.mem_append.1 hp with hp | hp
  · exact hl p hp
  · have : p = encR r := by simpa using hp
    subst this
    exact ⟨encR_B r, encR_len hr⟩
theorem log_app {r : ApiRequest} (hr : r.B.length ≤ 100) {l : List (List Int)} {q : List Int} {safe : Int} {n : Nat} (h : LogI n l q safe) : LogI (n + 1) (l ++ [encR r]) [] (min ((cat l).length : Int) safe) := by
  have hs := h.s0
  exact ⟨pays_snoc h.pl hr, torn_nil, by omega, by rw [cat_snoc]; simp; omega, by have := h.ln; simp; omega⟩
theorem sync_p {N : Nat} {l : List (List Int)} {q : List Int} {safe : Int} : journal_Log_Sync N safe (cat l ++ q) (ends l) = some ((l.length : Int), ((cat l).length : Int), ends l, cat l) := by
  unfold journal_Log_Sync
  rw [made_p, Option.bind_some]
  simp only
  rw [if_neg (by simp), trim_p, Option.bind_some]
  simp only
  rw [ends_len]
theorem sync_r {N : Nat} (hN : 20000 ≤ N) {l : List (List Int)} {q : List Int} {safe : Int} (hl : pays l) (hq : torn q) (hn : l.length ≤ 40) : billingref42_Log_Sync N safe (cat l ++ q) = some ((l.length : Int), ((cat l).length : Int), cat l) := by
  unfold billingref42_Log_Sync
  rw [trim_r hN hl hq hn, Option.bind_some]
theorem log_sync {l : List (List Int)} {q : List Int} {safe : Int} {n : Nat} (h : LogI n l q safe) : LogI (n + 1) l [] ((cat l).length : Int) :=
  ⟨h.pl, torn_nil, by omega, by simp, Nat.le_succ_of_le h.ln⟩
def leftN (len safe keep : Int) : Int := safe + min (len - safe) (max 0 keep)
theorem left_eq {len safe keep : Int} (h0 : 0 ≤ safe) (h1 : safe ≤ len) (h2 : len ≤ 100000) (hk : i64B keep) :
    IntKind.wrap .i64 (safe + (if (IntKind.wrap .i64 (len - safe)) < (if 0 > keep then 0 else keep) then (IntKind.wrap .i64 (len - safe)) else (if 0 > keep then 0 else keep))) = leftN len safe keep := by
  obtain ⟨k0, k1⟩ := hk
  rw [wi64 (n := len - safe) (by omega) (by omega)]
  have e : (if (0 : Int) > keep then (0 : Int) else keep) = max 0 keep := by
    by_cases h : (0 : Int) > keep
    · rw [if_pos h]; omega
    · rw [if_neg h]; omega
  rw [e, trimMin, wi64 (by omega) (by omega)]
  rfl
theorem crashLoop {N : Nat} {b : List Int} {safe keep : Int} (h0 : 0 ≤ safe) (h1 : safe ≤ (b.length : Int)) (h2 : b.length ≤ 100000) (hk : i64B keep) {l : List (List Int)} (hl : l.length ≤ 1000) {k : Nat} (hkl : k ≤ l.length)
    (hlow : ((cat (l.take k)).length : Int) ≤ leftN (b.length : Int) safe keep) (hhigh : k < l.length → leftN (b.length : Int) safe keep < ((cat (l.take (k + 1))).length : Int)) :
    ∀ (j f : Nat), k ≤ j → j ≤ l.length → j - k < f → loopN (journal_Log_Crash_l1 N safe b keep) f ((j : Int), ends (l.take j)) = some (ends (l.take k)) := by
  intro j
  induction j with
  | zero =>
    intro f hj _ hf
    obtain ⟨f, rfl⟩ : ∃ g, f = g + 1 := ⟨f - 1, by omega⟩
    have : k = 0 := by omega
    subst this
    simp only [loopN, journal_Log_Crash_l1]
    rw [if_neg (by simp)]
    rfl
  | succ j ih =>
    intro f hj hjl hf
    obtain ⟨f, rfl⟩ : ∃ g, f = g + 1 := ⟨f - 1, by omega⟩
    simp only [loopN, journal_Log_Crash_l1]
    rw [left_eq h0 h1 (by omega) hk]
    have hlt : (l.take (j + 1)).length = j + 1 := by rw [List.length_take]; omega
    have hfind : (findL (k := .int .i64) ((j + 1 : Nat) : Int) (ends (l.take (j + 1)))).getD 0 = ((cat (l.take (j + 1))).length : Int) := by
      have := ends_total (l.take (j + 1))
      rw [ends_len, hlt] at this
      exact this
    rw [hfind]
    by_cases hjk : k = j + 1
    · subst hjk
      rw [if_neg (by simp; omega)]
      rfl
    · have hbig : leftN (b.length : Int) safe keep < ((cat (l.take (j + 1))).length : Int) := by
        have hh := hhigh (by omega)
        have hmono : (cat (l.take (k + 1))).length ≤ (cat (l.take (j + 1))).length := by
          have e : l.take (j + 1) = l.take (k + 1) ++ (l.take (j + 1)).drop (k + 1) := by
            have := List.take_append_drop (k + 1) (l.take (j + 1))
            rw [List.take_take, Nat.min_eq_left (by omega)] at this
            exact this.symm
          rw [e, cat_append, List.length_append]; omega
        omega
      rw [if_pos (by simp; omega), Option.bind_some]
      have hd : delL (k := .int .i64) ((j + 1 : Nat) : Int) (ends (l.take (j + 1))) = ends (l.take j) := by
        obtain ⟨x, hx⟩ : ∃ x, l[j]? = some x := ⟨l[j], List.getElem?_eq_getElem (by omega)⟩
        have e : l.take (j + 1) = l.take j ++ [x] := by rw [List.take_add_one, hx]; rfl
        rw [e]
        have := endsG_del 0 0 (l.take j) x
        rw [List.length_take, Nat.min_eq_left (by omega), Nat.zero_add] at this
        exact this
      have hw : IntKind.wrap .i64 (((j + 1 : Nat) : Int) - 1) = (j : Int) := by rw [wi64 (by omega) (by omega)]; omega
      simp only
      rw [hd, hw]
      exact ih f (by omega) (by omega) (by omega)
theorem crash_p {N : Nat} (hN : 20000 ≤ N) {l : List (List Int)} {q : List Int} {safe keep : Int} {n : Nat} (h : LogI n l q safe) (hn : n ≤ 30) (hk : i64B keep) :
    ∃ l' q' s', LogI (n + 1) l' q' s' ∧ journal_Log_Crash N keep safe (cat l ++ q) (ends l) = some (s', ends l', cat l' ++ q') ∧ billingref42_Log_Crash N keep safe (cat l ++ q) = some (s', cat l' ++ q') := by
  have hc := cat_len h.pl
  have hq := torn_len h.tq
  have hln := h.ln
  have hb : (cat l ++ q).length ≤ 100000 := by simp; omega
  have hs0 := h.s0
  have hs1 := h.s1
  have hleft : 0 ≤ leftN ((cat l ++ q).length : Int) safe keep ∧ leftN ((cat l ++ q).length : Int) safe keep ≤ ((cat l ++ q).length : Int) := by
    unfold leftN; omega
  generalize hL : leftN ((cat l ++ q).length : Int) safe keep = L at hleft
  obtain ⟨k, q', h1, h2, h3, h4, h5⟩ := cut_frames l q L.toNat h.pl h.tq (by omega)
  have hpk : pays (l.take k) := fun p hp => h.pl p (List.mem_of_mem_take hp)
  have e1 : slc (cat l ++ q) 0 L = some (cat (l.take k) ++ q') := by
    unfold slc
    rw [if_pos (by omega), ← h3]
    simp
  have hlen : ((cat (l.take k) ++ q').length : Int) = L := by
    rw [← h3, List.length_take]; omega
  refine ⟨l.take k, q', L, ⟨hpk, h2, hleft.1, by rw [hlen]; exact Int.le_refl _, by rw [List.length_take]; omega⟩, ?_, ?_⟩
  · unfold journal_Log_Crash
    rw [made_p, Option.bind_some]
    simp only
    rw [if_neg (by simp), left_eq hs0 hs1 (by omega) hk, hL, e1, Option.bind_some, ends_len]
    have := crashLoop (N := N) hs0 hs1 hb hk (l := l) (by omega) h1 (by rw [hL]; omega) (fun hlt => by rw [hL]; have := h5 hlt; omega) l.length N h1 (Nat.le_refl _) (by omega)
    rw [List.take_length] at this
    rw [this, Option.bind_some]
  · unfold billingref42_Log_Crash
    rw [left_eq hs0 hs1 (by omega) hk, hL]
    have e2 : chk (decide (L ≤ L) && decide (L ≤ (List.length (cat l ++ q) : Int))) = some () := by
      unfold chk
      have : (decide (L ≤ L) && decide (L ≤ (List.length (cat l ++ q) : Int))) = true := by simp; simp at hleft; omega
      rw [this]; rfl
    rw [e2, Option.bind_some, e1, Option.bind_some]
theorem bytes_p {N : Nat} {s : Int} {b : List Int} {m : List (Int × Int)} (h : b.length ≤ 100000) : journal_Log_Bytes N s b m = some (s, m, b, b) := by
  unfold journal_Log_Bytes
  rw [made_p, Option.bind_some]
  simp only
  rw [if_neg (by simp)]
  unfold cloneR
  rw [app_few (by simp; omega)]
  rfl
theorem bytes_r42 {N : Nat} {s : Int} {b : List Int} (h : b.length ≤ 100000) : billingref42_Log_Bytes N s b = some (s, b, b) := by
  unfold billingref42_Log_Bytes
  rw [app_few (by simp; omega)]
  rfl
theorem same_r (N : Nat) (b : List Int) : billingref07_Same N b b = some true := by simp [billingref07_Same]
theorem law_JournalLogs (x0 : List Billinglaw42Op) (g0 : gd (.sl tyBillinglaw42Op) x0) : ∃ N, billinglaw42_JournalLogs N x0 = some true := by
  refine ⟨20000 + 64, ?_⟩
  unfold billinglaw42_JournalLogs
  by_cases hc : decide ((List.length x0 : Int) > 30) = true
  · rw [if_pos hc, alive42]; rfl
  · rw [if_neg hc]
    have hlen : x0.length ≤ 30 := by simp at hc; omega
    have e1 : journal_New (20000 + 64) = some (0, []) := rfl
    have e2 : billingref42_New (20000 + 64) = some 0 := rfl
    rw [e1, Option.bind_some]
    simp only
    rw [e2, Option.bind_some]
    simp only [Bool.false_eq_true, if_false]
    have main := loopN_inv (f := billinglaw42_JournalLogs_l1 (20000 + 64) x0) x0.length
      (fun i s => ∃ l q sf, LogI i l q sf ∧ s = ((i : Int), sf, sf, cat l ++ q, ends l, cat l ++ q)) (fun r => r = .inl () ∨ r = .inr true) ?_ (n := 20000 + 64) (s := (0, 0, 0, ([] : List Int), ([] : List (Int × Int)), ([] : List Int))) (by omega)
      ⟨[], [], 0, ⟨fun p hp => by simp at hp, torn_nil, by omega, by simp, by simp⟩, rfl⟩
    · obtain ⟨r, h1, rfl | rfl⟩ := main
      · rw [h1, Option.bind_some]
        simp only
        rw [alive42]; rfl
      · rw [h1, Option.bind_some]
    · rintro i s hi ⟨l, q, sf, h, rfl⟩
      have hq := torn_len h.tq
      simp only [billinglaw42_JournalLogs_l1]
      by_cases hlt : i < x0.length
      · rw [if_pos (by simpa using hlt)]
        obtain ⟨x, hx⟩ : ∃ x, x0[i]? = some x := ⟨x0[i], List.getElem?_eq_getElem hlt⟩
        rw [idx_nat hx, Option.bind_some]
        obtain ⟨gc, gr, gk⟩ := g0.2 x (List.mem_of_getElem? hx)
        by_cases hB : decide ((List.length x.Request.B : Int) > 100) = true
        · right
          rw [if_pos hB, alive42, Option.bind_some]
          exact ⟨_, rfl, .inr rfl⟩
        · rw [if_neg hB]
          have hr : x.Request.B.length ≤ 100 := by simp at hB; omega
          have hr' : x.Request.B.length ≤ 1000 := by omega
          have hR := gdReq (r := x.Request) gr hr'
          left
          have fin : ∀ (l' : List (List Int)) (q' : List Int) (sf' : Int) (X : Option ((Int × Int × List Int × List (Int × Int) × List Int) ⊕ Bool)), LogI (i + 1) l' q' sf' → X = some (.inl (sf', sf', cat l' ++ q', ends l', cat l' ++ q')) →
              ∃ s', i < x0.length ∧ (X.bind fun
                | .inl (v79, v80, v81, v82, v83) =>
                  (journal_Log_Bytes (20000 + 64) v79 v81 v82).bind fun (r84, r85, r86, r87) =>
                  (billingref42_Log_Bytes (20000 + 64) v80 v83).bind fun (r88, r89, r90) =>
                  (billingref07_Same (20000 + 64) r86 r89).bind fun r91 =>
                  if (!r91) then
                    some (.inr (.inr false))
                  else
                    some (.inl ((IntKind.wrap .i64 ((i : Int) + 1)), r84, r88, r87, r85, r90))
                | .inr v92 =>
                  some (.inr (.inr v92)) : Option ((Int × Int × Int × (List Int) × (List (Int × Int)) × (List Int)) ⊕ ((Unit) ⊕ (Bool)))) = some (.inl s') ∧ ∃ l q sf, LogI (i + 1) l q sf ∧ s' = (((i + 1 : Nat) : Int), sf, sf, cat l ++ q, ends l, cat l ++ q) := by
            intro l' q' sf' X hI hX
            have h1 := cat_len hI.pl
            have h2 := torn_len hI.tq
            have h3 := hI.ln
            rw [hX, Option.bind_some]
            simp only
            rw [bytes_p (by simp; omega), Option.bind_some]
            simp only
            rw [bytes_r42 (by simp; omega), Option.bind_some]
            simp only
            rw [same_r, Option.bind_some, wi64 (by omega) (by omega)]
            exact ⟨_, hlt, rfl, l', q', sf', hI, rfl⟩
          by_cases c0 : (x.Call == 0) = true
          · refine fin (l ++ [encR x.Request]) [] (min ((cat l).length : Int) sf) _ (log_app hr h) ?_
            rw [if_pos c0, app_p (by omega) hR hr h (by omega), Option.bind_some]
            simp only
            rw [app_r (by omega) hR hr h (by omega), Option.bind_some]
            simp
          · by_cases c1 : (x.Call == 1) = true
            · refine fin l [] ((cat l).length : Int) _ (log_sync h) ?_
              rw [if_neg c0, if_pos c1, sync_p, Option.bind_some]
              simp only
              have hln := h.ln
              rw [sync_r (by omega) h.pl h.tq (by omega), Option.bind_some]
              simp
            · by_cases c2 : (x.Call == 2) = true
              · obtain ⟨l', q', s', k1, k2, k3⟩ := crash_p (N := 20000 + 64) (by omega) h (by omega) (keep := x.Keep) gk
                refine fin l' q' s' _ k1 ?_
                rw [if_neg c0, if_neg c1, if_pos c2, k2, Option.bind_some]
                simp only
                rw [k3, Option.bind_some]
              · refine fin l q sf _ ⟨h.pl, h.tq, h.s0, h.s1, Nat.le_succ_of_le h.ln⟩ ?_
                rw [if_neg c0, if_neg c1, if_neg c2]
      · right
        rw [if_neg (by simpa using hlt)]
        exact ⟨_, rfl, .inl rfl⟩
end Gx
