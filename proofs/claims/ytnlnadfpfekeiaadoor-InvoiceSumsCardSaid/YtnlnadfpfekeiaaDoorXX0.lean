/- Functions of the library, by the kit's contracts; the package-level variables that a statement lists. -/
import Derived.Test.YtnlnadfpfekeiaaDoorXQ
import Derived.Lib.ItoaNum
import Derived.Lib.LaidTab
import Derived.Lib.AppendIntMem
import Derived.Lib.Bytealg
import Derived.Lib.SlTrimSet
import Derived.Lib.Walk
namespace Gx
open Go Go.RowKit Go.Lib Go.Sort Gd
set_option linter.unusedVariables false
set_option linter.unusedSimpArgs false
set_option linter.constructorNameAsVariable false
def digF : Nat → Nat → Str
  | 0, _ => []
  | f + 1, u => bif Nat.blt u 10 then [UInt8.ofNat (48 + u)] else digF f (u / 10) ++ [UInt8.ofNat (48 + u % 10)]
def itoaS (n : Int) : Str := bif decide (n < 0) then 45 :: digF 20 n.natAbs else digF 20 n.toNat
theorem digF_eq : ∀ (f u : Nat), u < 10 ^ f → 0 < f → digF f u = decDigits u
  | 0, u, _, h => by omega
  | f + 1, u, hu, _ => by
    rw [decDigits]
    simp only [digF]
    by_cases h : u < 10
    · rw [dif_pos h, show Nat.blt u 10 = true from Nat.ble_eq_true_of_le (by omega)]; rfl
    · have hb : Nat.blt u 10 = false := by
        cases hb : Nat.blt u 10 with
        | false => rfl
        | true => have := Nat.le_of_ble_eq_true hb; omega
      rw [dif_neg h, hb]
      have hf : 0 < f := by
        rcases Nat.eq_zero_or_pos f with h0 | h0
        · subst h0; simp at hu; omega
        · exact h0
      rw [cond_false, digF_eq f (u / 10) (by rw [Nat.pow_succ] at hu; omega) hf]
theorem itoaS_eq {n : Int} (h0 : -9223372036854775808 ≤ n) (h1 : n ≤ 9223372036854775807) : itoaS n = itoa n := by
  have hp : (10 : Nat) ^ 20 = 100000000000000000000 := by decide
  unfold itoaS itoa
  by_cases h : n < 0
  · rw [if_pos h, decide_eq_true h, cond_true, digF_eq 20 _ (by rw [hp]; omega) (by omega)]
  · rw [if_neg h, decide_eq_false h, cond_false, digF_eq 20 _ (by rw [hp]; omega) (by omega)]
section
variable {P : Program} {gl : List (Nat × Σ t : Ty, t.De)}
theorem ext_ok {c : Con} (hΓ : c.Γ.mem = []) (hΔ : c.Δ.mem = [])
    (h : ∀ (ok : Ok) (w : World) (β : Nat → Nat) (ρ : Nat → Value) (x : c.Γ.De) (y : c.Δ.De) (vs : List Value), GlobOk gl ok w → vs.length = c.Γ.env.length → (∀ e ∈ (enc c.Γ x).env, ∃ cs, vs[e.t]? = some (e.av.val cs) ∧ cr β ρ ok w false e.av cs) → c.fn x = some y →
      Calls P c.f ⟨vs⟩ w fun e w' => ∃ v cs, e = .returned v ∧ v = (resAV (enc c.Δ y).env).val cs ∧ (∀ ok' w', cr β ρ ok' w' false (resAV (enc c.Δ y).env) cs) ∧ Below w.heap.size w w') : ConOk P gl c := by
  intro ok w L β ρ x y vs hok hG hlen hL hargs hy
  refine (h ok w β ρ x y vs hG hlen hargs hy).mono ?_
  rintro e w' ⟨v, cs, rfl, hv, hc, hb⟩
  have hm : (enc c.Δ y).mem = [] := by
    unfold enc
    split
    rw [hΔ]; rfl
  refine ⟨v, rfl, ⟨β, ρ, fun i hi => ⟨rfl, rfl⟩, ⟨cs, hv, hc _ _⟩, ?_, ?_⟩, BelowL.of _ hb⟩
  · rw [hm]; simp [memO]
  · rw [hm]; exact .nil
theorem ints_rep {k : IntKind} {ok : Ok} {w : World} : ∀ {zs : List Int} {cs : List Value}, repA (rInt k) ok w zs cs → cs = zs.map (Value.int k)
  | [], cs, h => by simpa [repA] using h
  | z :: zs, cs, ⟨c1, c2, h, h1, h2⟩ => by
    have h1' : c1 = [.int k z] := h1
    rw [h, h1', ints_rep h2]; rfl
theorem tab_of {g : Nat} {name : String} {n : Nat} {k : IntKind} {zs : List Int} {ok : Ok} {w : World} (hG : GlobOk gl ok w) (hm : (g, ⟨.arr n (.int k), zs⟩) ∈ gl) (hg : P.globalNamed name = some g) : TabIs P w name k zs := by
  obtain ⟨⟨b, o, cs, hp, hr, hc⟩, _, cells, t, fz, hh, hsz⟩ := hG _ hm
  injection hp with hp; injection hp with hp; injection hp with h1 h2
  subst h1; subst h2
  obtain ⟨hn, hr⟩ := (show zs.length = n ∧ repA (rInt k) ok w zs cs from hr)
  have hcs : cs = zs.map (Value.int k) := ints_rep hr
  have hsz' : cells.size = zs.length := by rw [hsz, hn]; simp [Ty.size]
  unfold TabIs World.var?
  rw [hg]
  simp only [Option.bind_some, hh]
  congr 1
  apply Array.ext_getElem?
  intro i
  rcases Nat.lt_or_ge i zs.length with hi | hi
  · have := (hc i (.int k zs[i]) (by rw [hcs]; simp [hi])).2
    simp [World.cell?, hh] at this
    rw [this]
    simp [hi]
  · rw [Array.getElem?_eq_none (by omega), Array.getElem?_eq_none (by simp; omega)]
abbrev inI : Shp := ⟨[(0, .d (.int .i64))], []⟩
abbrev outS1 : Shp := ⟨[(0, .d .str)], []⟩
def itoaF (x : Int) : Option Str := if -9223372036854775808 ≤ x ∧ x ≤ 9223372036854775807 then some (itoaS x) else none
theorem ext_itoa {f g : Nat} (hm : (g, ⟨.arr 20 (.int .u64), pow10Tab⟩) ∈ gl) (hg : P.globalNamed "internal/strconv.uint64pow10" = some g)
    (h : ∀ (n : Int) (h0 : -9223372036854775808 ≤ n) (h1 : n ≤ 9223372036854775807) (w : World), TabIs P w "internal/strconv.uint64pow10" .u64 pow10Tab →
      Calls P f #[.int .i64 n] w fun e w' => e = .returned (.string ⟨(itoa n).toArray⟩) ∧ ∃ k os, w' = grow (w.drewN k) os) : ConOk P gl ⟨f, inI, outS1, itoaF⟩ := by
  refine ext_ok rfl rfl fun ok w β ρ x y vs hG hlen hargs hy => ?_
  obtain ⟨cs, h1, h2⟩ := hargs ⟨0, [], .d (.int .i64) x⟩ (.head _)
  have h2' : cs = [.int .i64 x] := h2
  subst h2'
  have hvs : vs = [.int .i64 x] := by
    match vs, hlen with
    | [v], _ => simp at h1; rw [h1]; rfl
  subst hvs
  have hy : itoaF x = some y := hy
  unfold itoaF at hy
  split at hy
  · rename_i hb
    have hy := (Option.some.inj hy).symm
    subst hy
    refine (h x hb.1 hb.2 w (tab_of hG hm hg)).mono ?_
    rintro e w' ⟨rfl, k, os, rfl⟩
    exact ⟨_, [strV (itoaS x)], rfl, by rw [itoaS_eq hb.1 hb.2]; rfl, fun _ _ => rfl, below_grow _ _ (Nat.le_refl _) _ _⟩
  · cases hy
theorem glob_of_tab {W : World} {name : String} {g n : Nat} {k : IntKind} {zs : List Int} (h : TabIs P W name k zs) (hg : P.globalNamed name = some g) (hn : Nat.beq zs.length n = true) (hpos : Nat.ble 1 n = true) :
    isAt (rt (.arr n (.int k))) (lt W) W zs (.pointer (some ⟨g, 0, none⟩)) ∧ lt W g 0 ∧ ∃ cs t fz, W.heap[g]? = some (.cells cs t fz) ∧ cs.size = (Ty.arr n (.int k)).size := by
  have hn := Nat.eq_of_beq_eq_true hn
  have hpos := Nat.le_of_ble_eq_true hpos
  have hcell := fun i hi => h.cell hg i hi
  unfold TabIs World.var? at h
  rw [hg] at h
  simp only [Option.bind_some] at h
  split at h
  · rename_i cs t fz hh
    have hcs := Option.some.inj h
    have hlt : g < W.heap.size := heap_lt hh
    refine ⟨⟨g, 0, zs.map (Value.int k), rfl, ⟨hn, ?_⟩, fun j u hu => ⟨hlt, ?_⟩⟩, hlt, cs, t, fz, hh, by rw [hcs]; simp [Ty.size, hn]⟩
    · exact repA_ints zs
    · rw [List.getElem?_map] at hu
      obtain ⟨z, hz, rfl⟩ := Option.map_eq_some_iff.1 hu
      have hj := (List.getElem?_eq_some_iff.1 hz).1
      rw [Nat.zero_add, hcell j hj, List.getD_eq_getElem?_getD, hz]
      rfl
  · cases h
end
end Gx
