/-
  The program's floats straight below and above a number (edge): what under answers; Size.
-/
import Derived.Test.YthddodhcpfponaaUnd
import Derived.Test.YthddodhcpfponaaRndC
namespace Go.Proofs.Ythddodhcpfponaa
open Go.RowKit

theorem pow_int (t : Nat) : (2 : Int) ^ t = ((2 ^ t : Nat) : Int) := by rw [Int.natCast_pow]; rfl
theorem u64_small {x : Nat} (h : x < 18446744073709551616) : IntKind.u64.wrap (x : Int) = (x : Int) := by
  rw [IntKind.wrap_u64]; omega
theorem und_and (x t : Nat) (hx : x < 18446744073709551616) (ht : t < 64) : bits .and .u64 (x : Int) (IntKind.u64.wrap (IntKind.u64.wrap ((2 : Int) ^ t) - 1)) = ((x % 2 ^ t : Nat) : Int) := by
  have h1 : 2 ^ t ≤ 2 ^ 63 := Nat.pow_le_pow_right (by decide) (by omega)
  have h2 : 0 < 2 ^ t := Nat.two_pow_pos t
  rw [pow_int, u64_small (by omega), show ((2 ^ t : Nat) : Int) - 1 = ((2 ^ t - 1 : Nat) : Int) by omega, u64_small (by omega), u64_and_nat x _ hx (by omega), Nat.and_two_pow_sub_one_eq_mod]
theorem und_split (h l t : Nat) (ht : t ≤ 64) : (h * 2 ^ 64 + l) / 2 ^ t = h * 2 ^ (64 - t) + l / 2 ^ t := by
  have e : 2 ^ 64 = 2 ^ (64 - t) * 2 ^ t := by rw [← Nat.pow_add]; congr 1; omega
  rw [e, ← Nat.mul_assoc, Nat.add_comm, Nat.add_mul_div_right _ _ (Nat.two_pow_pos t), Nat.add_comm]
theorem und_split_mod (h l t : Nat) (ht : t ≤ 64) : (h * 2 ^ 64 + l) % 2 ^ t = l % 2 ^ t := by
  have e : 2 ^ 64 = 2 ^ (64 - t) * 2 ^ t := by rw [← Nat.pow_add]; congr 1; omega
  rw [e, ← Nat.mul_assoc, Nat.add_comm, Nat.add_mul_mod_self_right]
theorem und_or (h l t : Nat) (hl : l < 18446744073709551616) (ht : t < 64) (hs : h * 2 ^ (64 - t) < 2 ^ 64) :
    bits .or .u64 ((l : Int) / 2 ^ t) (IntKind.u64.wrap ((h : Int) * 2 ^ (64 - t))) = (((h * 2 ^ 64 + l) / 2 ^ t : Nat) : Int) := by
  have h1 : l / 2 ^ t < 2 ^ (64 - t) := by
    rw [Nat.div_lt_iff_lt_mul (Nat.two_pow_pos t), ← Nat.pow_add, show 64 - t + t = 64 by omega]; exact hl
  have h2 : 2 ^ (64 - t) ≤ 2 ^ 64 := Nat.pow_le_pow_right (by decide) (by omega)
  have e1 : (l : Int) / 2 ^ t = ((l / 2 ^ t : Nat) : Int) := by rw [pow_int, ← Int.natCast_ediv]
  have e2 : (h : Int) * 2 ^ (64 - t) = ((h * 2 ^ (64 - t) : Nat) : Int) := by rw [pow_int, ← Int.natCast_mul]
  rw [e1, e2, u64_small (by omega), u64_or_nat _ _ (by omega) (by omega), und_split h l t (by omega)]
  congr 1
  rw [Nat.or_comm, Nat.mul_comm h, ← Nat.two_pow_add_eq_or_of_lt h1]
theorem und_high (h l t : Nat) (hl : l < 2 ^ 64) : (h * 2 ^ 64 + l) / 2 ^ (64 + t) = h / 2 ^ t := by
  rw [Nat.pow_add, ← Nat.div_div_eq_div_mul, Nat.add_comm, Nat.add_mul_div_right _ _ (Nat.two_pow_pos 64), Nat.div_eq_of_lt hl, Nat.zero_add]
theorem und_high_mod (h l t : Nat) (hl : l < 2 ^ 64) : (h * 2 ^ 64 + l) % 2 ^ (64 + t) = 0 ↔ l = 0 ∧ h % 2 ^ t = 0 := by
  have e := Nat.mod_mul (x := h * 2 ^ 64 + l) (a := 2 ^ 64) (b := 2 ^ t)
  rw [← Nat.pow_add] at e
  rw [e]
  have e1 : (h * 2 ^ 64 + l) % 2 ^ 64 = l := by rw [Nat.add_comm, Nat.add_mul_mod_self_right, Nat.mod_eq_of_lt hl]
  have e2 : (h * 2 ^ 64 + l) / 2 ^ 64 = h := by rw [Nat.add_comm, Nat.add_mul_div_right _ _ (Nat.two_pow_pos 64), Nat.div_eq_of_lt hl, Nat.zero_add]
  rw [e1, e2]
  constructor
  · intro h'
    refine ⟨by omega, ?_⟩
    have : 2 ^ 64 * (h % 2 ^ t) = 0 := by omega
    omega
  · rintro ⟨rfl, h2⟩; rw [h2]
theorem bne_dec (x : Nat) : ((x : Int) != 0) = !decide (x = 0) := by
  by_cases hx : x = 0
  · subst hx; rfl
  · have : ((x : Int) != 0) = true := by simp; omega
    rw [this, decide_eq_false hx]; rfl
theorem bitLen_high (h l : Nat) (h0 : h ≠ 0) (hl : l < 2 ^ 64) : bitLen (h * 2 ^ 64 + l) = 64 + bitLen h := by
  obtain ⟨a, b, c⟩ := bitLen_spec h0
  refine bitLen_uniq ?_ ?_ (by omega)
  · have e : 2 ^ (64 + bitLen h) = 2 * 2 ^ 64 * 2 ^ (bitLen h - 1) := by rw [← Nat.pow_succ', ← Nat.pow_add]; congr 1; omega
    rw [e]
    have := Nat.mul_le_mul_left (2 * 2 ^ 64) b
    omega
  · have := Nat.mul_le_mul_right (2 ^ 64) (Nat.succ_le_of_lt c)
    rw [Nat.pow_add, Nat.mul_comm (2 ^ 64) (2 ^ bitLen h)]
    omega

/-- What is told of a fraction in a pair: the float below, and whether it is that. -/
def RetDn (w : World) (num den : Nat) (e : Ending) (w' : World) : Prop :=
  ∃ r ex, e = .returned (.tuple #[.float .f64 r, .bool ex]) ∧ Flt.Dn num den r ∧ ex = decide (Flt.val r * den = num) ∧ ∃ d, w.drewN d = w'

theorem und_ret {P : Program} {f : FuncId} {args : Array Value} {w : World} {num den r : Nat} {ex : Bool} (h : Calls P f args w (RetD w (.tuple #[.float .f64 r, .bool ex]))) (h1 : Flt.Dn num den r) (h2 : ex = decide (Flt.val r * den = num)) :
    Calls P f args w (RetDn w num den) := h.mono fun _ _ ⟨e, d⟩ => ⟨r, ex, e, h1, h2, d⟩

theorem und_ret0 {P : Program} {f : FuncId} {x y z : Value} {w : World} {num den r : Nat} {ex : Bool} (h : Calls P f #[.int .u64 0, x, y, z] w (RetD w (.tuple #[.float .f64 r, .bool ex]))) (h1 : Flt.Dn num den r) (h2 : ex = decide (Flt.val r * den = num)) :
    Calls P f #[.int .u64 ((0 : Nat) : Int), x, y, z] w (RetDn w num den) := und_ret h h1 h2

set_option maxHeartbeats 400000 in
theorem edge_under (h l p q N : Nat) (e : Int) (more : Bool) (w : World) (hh : h < 18446744073709551616) (hl : l < 18446744073709551616) (hN : N = h * 2 ^ 64 + l) (hN0 : N ≠ 0) (hq : 0 < q) (h1 : N * q ≤ p) (h2 : p < (N + 1) * q)
    (hm : more = decide (p ≠ N * q)) (hb : more = true → 2 ^ 53 ≤ N) (he1 : -4000 ≤ e) (he2 : e ≤ 4000) :
    Calls Try.prog 83 #[.int .u64 (h : Int), .int .u64 (l : Int), .bool more, .int .i64 e] w (RetDn w (p * 2 ^ (e + 1074).toNat) (q * 2 ^ (-(e + 1074)).toNat)) := by
  obtain ⟨n1, n2, n3⟩ := bitLen_spec hN0
  generalize hn : bitLen N = n at n1 n2 n3
  have hn128 : n ≤ 128 := by
    rcases Nat.lt_or_ge 128 n with h' | h'
    · have : 2 ^ 128 ≤ 2 ^ (n - 1) := Nat.pow_le_pow_right (by decide) (by omega)
      omega
    · exact h'
  generalize hk : max (e + (n : Int) - 53) (-1074) = k
  generalize ha : (e - k).toNat = a
  generalize hb' : (k - e).toNat = b
  have hk1 : -1074 ≤ k := by omega
  have hk3 : k = -1074 ∨ k = e + n - 53 := by omega
  have hk4 : e + n - 53 ≤ k := by omega
  have hplace : (((k + 1074).toNat : Nat) : Int) - 1074 = k := by omega
  obtain ⟨Q, hQ⟩ : ∃ Q, Q = N * 2 ^ a / 2 ^ b := ⟨_, rfl⟩
  have hB : 0 < 2 ^ b := Nat.two_pow_pos b
  have q1 : Q * 2 ^ b ≤ N * 2 ^ a := by rw [hQ]; exact Nat.div_mul_le_self _ _
  have q2 : N * 2 ^ a < (Q + 1) * 2 ^ b := by
    rw [hQ, Nat.add_mul, Nat.one_mul]
    have := Nat.div_add_mod (N * 2 ^ a) (2 ^ b)
    have := Nat.mod_lt (N * 2 ^ a) hB
    rw [Nat.mul_comm (2 ^ b)] at *
    omega
  have qm : Hid (Q * 2 ^ b = N * 2 ^ a ↔ N * 2 ^ a % 2 ^ b = 0) := by
    refine Lib.hid ?_
    have := Nat.div_add_mod (N * 2 ^ a) (2 ^ b)
    rw [hQ, Nat.mul_comm _ (2 ^ b)]
    omega
  have hQ53 : Q < 2 ^ 53 := by
    apply Nat.lt_of_mul_lt_mul_right (a := 2 ^ b)
    have : N * 2 ^ a < 2 ^ n * 2 ^ a := Nat.mul_lt_mul_of_pos_right n3 (Nat.two_pow_pos a)
    rw [← Nat.pow_add] at this ⊢
    have : 2 ^ (n + a) ≤ 2 ^ (53 + b) := Nat.pow_le_pow_right (by decide) (by omega)
    omega
  have hQ52 : k = -1074 ∨ 2 ^ 52 ≤ Q := by
    rcases hk3 with h' | h'
    · exact .inl h'
    · right
      rw [hQ, Nat.le_div_iff_mul_le hB, ← Nat.pow_add]
      have : 2 ^ (n - 1) * 2 ^ a ≤ N * 2 ^ a := Nat.mul_le_mul_right _ n2
      rw [← Nat.pow_add] at this
      rw [show 52 + b = n - 1 + a by omega]
      exact this
  have hlow : Hid ((k + 1074).toNat = 0 ∨ 2 ^ 52 ≤ Q) := Lib.hid (hQ52.imp (fun h => by rw [h]; rfl) id)
  have ha0 : p = N * q ∨ a = 0 := by
    by_cases h' : p = N * q
    · exact .inl h'
    · right
      have hmt : more = true := by rw [hm]; exact decide_eq_true h'
      have := hb hmt
      have : 54 ≤ n := by
        rcases Nat.lt_or_ge n 54 with h'' | h''
        · have : 2 ^ n ≤ 2 ^ 53 := Nat.pow_le_pow_right (by decide) (by omega)
          omega
        · exact h''
      omega
  obtain ⟨c1, c2, c3⟩ := Flt.cut_whole h1 h2 ha0 q1 q2 hq
  have C3 := Lib.hid c3
  clear c3 ha0 hk3
  obtain ⟨d1, d2⟩ := Flt.cut_dn (p := p) (q := q) (Q := Q) (e := e) (k := k) hq ha.symm hb'.symm rfl rfl rfl hk1 c1 c2
  generalize p * 2 ^ (e + 1074).toNat = num at *
  generalize q * 2 ^ (-(e + 1074)).toNat = den at *
  have D1 := fun x => Lib.hid (d1 x hQ53 hQ52)
  have hbig : 971 < k → 2 ^ 52 ≤ Q := fun x => by omega
  have D2 := fun x => Lib.hid (d2 x (hbig x))
  clear d1 d2 c1 c2 hQ52 hbig
  have hl64 : l < 2 ^ 64 := hl
  have hhq : Hid (h ≠ 0 → n = 64 + bitLen h) := Lib.hid fun h0 => by rw [← hn, hN, bitLen_high h l h0 hl64]
  have hlq : Hid (h = 0 → n = bitLen l) := Lib.hid fun h0 => by rw [← hn, hN, h0, Nat.zero_mul, Nat.zero_add]
  have hn64 : Hid (h = 0 → n ≤ 64) := Lib.hid fun h0 => by
    rcases Nat.lt_or_ge 64 n with h' | h'
    · have : 2 ^ 64 ≤ 2 ^ (n - 1) := Nat.pow_le_pow_right (by decide) (by omega)
      omega
    · exact h'
  by_cases hk2 : 971 < k
  · obtain ⟨e1, e2⟩ := (D2 hk2).out
    have hi : 9218868437227405311 = Flt.inf - 1 := by rw [Flt.inf_eq]
    have hx : false = decide (Flt.val 9218868437227405311 * den = num) := by rw [hi]; exact (decide_eq_false (by omega)).symm
    rw [← hi] at e1
    by_cases h0 : h = 0
    · subst h0
      exact und_ret0 (und_big_0 l n e k more w hl (Lib.hid (hlq.out rfl).symm) he1 he2 (hn64.out rfl) hk hk2) e1 hx
    · have hnh := hhq.out h0
      exact und_ret (und_big_1 h (bitLen h) hh (Lib.hid rfl) (by omega) (by omega) l (bitLen l) e k more w hl (Lib.hid rfl) he1 he2 (by rw [← hk, hnh]; rfl) hk2) e1 hx
  · have hk2' : k ≤ 971 := by omega
    obtain ⟨e1, e2⟩ := (D1 hk2').out
    have e3 := Lib.hid (e2.trans C3.out)
    clear e2 D1 D2 C3
    obtain ⟨res, hres⟩ : ∃ res, res = (k + 1074).toNat * 2 ^ 52 + Q := ⟨_, rfl⟩
    rw [← hres] at e1
    have e3 : Hid (Flt.val res * den = num ↔ p = N * q ∧ Q * 2 ^ b = N * 2 ^ a) := by rw [hres]; exact e3
    have L : Hid (Ldx Q (k + 1074).toNat res k) := Lib.hid ⟨hQ53, hplace, hk2', hlow.out, hres⟩
    clear hres hplace hlow
    by_cases hs0 : k - e ≤ 0
    · -- no bit goes
      have hb0 : b = 0 := by omega
      have h0 : h = 0 := by
        have : n ≤ 53 := by omega
        have : 2 ^ n ≤ 2 ^ 53 := Nat.pow_le_pow_right (by decide) this
        omega
      subst h0
      subst hb0
      have hQe : Q = N * 2 ^ a := by rw [hQ, Nat.pow_zero, Nat.div_one]
      have hNl : N = l := by omega
      have hmx : IntKind.u64.wrap (↑l * 2 ^ (-(k - e)).toNat) = (Q : Int) := by
        rw [show (-(k - e)).toNat = a by omega, pow_int, ← Int.natCast_mul, ← hNl, ← hQe]
        exact u64_small (by omega)
      refine und_ret0 (und_up l n Q _ res e k more w hl (Lib.hid (hlq.out rfl).symm) he1 he2 (hn64.out rfl) hk hk2' hs0 L (Lib.hid hmx)) e1 ?_
      rw [hm]
      by_cases hp : p = N * q
      · have : Flt.val res * den = num := e3.out.2 ⟨hp, by rw [hQe, Nat.pow_zero, Nat.mul_one]⟩
        simp [hp, this]
      · have : ¬ Flt.val res * den = num := fun h' => hp (e3.out.1 h').1
        simp [hp, this]
    · have ha0' : a = 0 := by omega
      subst ha0'
      have e3 : Hid (Flt.val res * den = num ↔ p = N * q ∧ N % 2 ^ b = 0) := by
        have q3 := qm.out
        have e4 := e3.out
        rw [q3, Nat.pow_zero, Nat.mul_one] at e4
        exact Lib.hid e4
      clear qm
      rw [Nat.pow_zero, Nat.mul_one] at hQ q1 q2
      have hsb : k - e = (b : Int) := by omega
      have hsn : (k - e).toNat = b := by omega
      have hmore : more = true → ¬ Flt.val res * den = num := fun h' h'' => by
        rw [hm] at h'
        exact of_decide_eq_true h' (e3.out.1 h'').1
      have hless : more = false → (Flt.val res * den = num ↔ N % 2 ^ b = 0) := fun h' => by
        rw [hm] at h'
        have hp : p = N * q := by simpa using h'
        rw [e3.out]
        exact ⟨fun x => x.2, fun x => ⟨hp, x⟩⟩
      by_cases hs1 : b < 64
      · have hmask := und_and l b hl hs1
        have hmod : N % 2 ^ b = l % 2 ^ b := by rw [hN]; exact und_split_mod h l b (by omega)
        have hbit : Hid ((bits .and .u64 (↑l) (IntKind.u64.wrap (IntKind.u64.wrap (2 ^ (k - e).toNat) - 1)) != 0) = !decide (N % 2 ^ b = 0)) := by
          rw [hsn, hmask, hmod]
          exact Lib.hid (bne_dec _)
        have hhs : h * 2 ^ (64 - b) < 2 ^ 64 := by
          have := und_split h l b (by omega)
          rw [← hN, ← hQ] at this
          have := Nat.le_add_right (h * 2 ^ (64 - b)) (l / 2 ^ b)
          omega
        by_cases h0 : h = 0
        · subst h0
          have hmx : Hid (bits .or .u64 (↑l / 2 ^ (k - e).toNat) 0 = (Q : Int)) := by
            have := und_or 0 l b hl hs1 hhs
            rw [← hN, ← hQ] at this
            rw [hsn]
            refine Lib.hid (Eq.trans ?_ this)
            congr 1
            rw [show ((0 : Nat) : Int) = 0 from rfl, Int.zero_mul]
            rfl
          cases hmt : more with
          | true =>
            exact und_ret0 (und_mid_0_t l n Q _ res e k w hl (Lib.hid (hlq.out rfl).symm) he1 he2 (hn64.out rfl) hk hk2' (by omega) (by omega) L hmx) e1 (decide_eq_false (hmore hmt)).symm
          | false =>
            exact und_ret0 (und_mid_0_f l n Q _ res e k w hl (Lib.hid (hlq.out rfl).symm) he1 he2 (hn64.out rfl) hk hk2' (by omega) (by omega) L hmx _ hbit) e1 (by rw [decide_eq_decide]; exact (hless hmt).symm)
        · have hnh := hhq.out h0
          have hmx : Hid (bits .or .u64 (↑l / 2 ^ (k - e).toNat) (IntKind.u64.wrap (↑h * 2 ^ (64 - (k - e)).toNat)) = (Q : Int)) := by
            have := und_or h l b hl hs1 hhs
            rw [← hN, ← hQ] at this
            rw [hsn, show (64 - (k - e)).toNat = 64 - b by omega]
            exact Lib.hid this
          cases hmt : more with
          | true =>
            exact und_ret (und_mid_1_t h (bitLen h) hh (Lib.hid rfl) (by omega) (by omega) l (bitLen l) Q _ res e k w hl (Lib.hid rfl) he1 he2 (by rw [← hk, hnh]; rfl) hk2' (by omega) (by omega) L hmx) e1 (decide_eq_false (hmore hmt)).symm
          | false =>
            exact und_ret (und_mid_1_f h (bitLen h) hh (Lib.hid rfl) (by omega) (by omega) l (bitLen l) Q _ res e k w hl (Lib.hid rfl) he1 he2 (by rw [← hk, hnh]; rfl) hk2' (by omega) (by omega) L hmx _ hbit) e1 (by rw [decide_eq_decide]; exact (hless hmt).symm)
      · by_cases hs2 : b < 128
        · obtain ⟨t, ht⟩ : ∃ t, b = 64 + t := ⟨b - 64, by omega⟩
          have hQh : Q = h / 2 ^ t := by rw [hQ, hN, ht]; exact und_high h l t hl64
          have hz : Hid (N % 2 ^ b = 0 ↔ l = 0 ∧ h % 2 ^ t = 0) := Lib.hid (by rw [hN, ht]; exact und_high_mod h l t hl64)
          have hst : (k - e - 64).toNat = t := by omega
          by_cases h0 : h = 0
          · subst h0
            have hmx : Hid (((0 : Nat) : Int) = (Q : Int)) := Lib.hid (by rw [hQh, Nat.zero_div])
            have hl0 : l ≠ 0 := by omega
            have hx : ¬ Flt.val res * den = num := by
              cases hmt : more with
              | true => exact hmore hmt
              | false => rw [hless hmt, hz.out]; exact fun x => hl0 x.1
            cases hmt : more with
            | true =>
              exact und_ret0 (und_high_0_t l n Q _ res e k w hl (Lib.hid (hlq.out rfl).symm) he1 he2 (hn64.out rfl) hk hk2' (by omega) (by omega) L hmx) e1 (decide_eq_false hx).symm
            | false =>
              exact und_ret0 (und_high_0_l l n Q _ res e k w hl (Lib.hid (hlq.out rfl).symm) he1 he2 (hn64.out rfl) hk hk2' (by omega) (by omega) (by simp; omega) L hmx) e1 (decide_eq_false hx).symm
          · have hnh := hhq.out h0
            have hmx : Hid ((h : Int) / 2 ^ (k - e - 64).toNat = (Q : Int)) := by
              rw [hst, pow_int, ← Int.natCast_ediv, hQh]; exact Lib.hid rfl
            cases hmt : more with
            | true =>
              exact und_ret (und_high_1_t h (bitLen h) hh (Lib.hid rfl) (by omega) (by omega) l (bitLen l) Q _ res e k w hl (Lib.hid rfl) he1 he2 (by rw [← hk, hnh]; rfl) hk2' (by omega) (by omega) L hmx) e1 (decide_eq_false (hmore hmt)).symm
            | false =>
              by_cases hl0 : l = 0
              · have hbit : Hid ((bits .and .u64 (↑h) (IntKind.u64.wrap (IntKind.u64.wrap (2 ^ (k - e - 64).toNat) - 1)) != 0) = !decide (N % 2 ^ b = 0)) := by
                  rw [hst, und_and h t hh (by omega)]
                  have hz' : N % 2 ^ b = 0 ↔ h % 2 ^ t = 0 := by rw [hz.out]; exact ⟨fun x => x.2, fun x => ⟨hl0, x⟩⟩
                  rw [decide_eq_decide.2 hz']
                  exact Lib.hid (bne_dec _)
                exact und_ret (und_high_1_f h (bitLen h) hh (Lib.hid rfl) (by omega) (by omega) l (bitLen l) Q _ res e k w hl (Lib.hid rfl) he1 he2 (by rw [← hk, hnh]; rfl) hk2' (by omega) (by omega) (by simp; omega) L hmx _ hbit) e1 (by rw [decide_eq_decide]; exact (hless hmt).symm)
              · exact und_ret (und_high_1_l h (bitLen h) hh (Lib.hid rfl) (by omega) (by omega) l (bitLen l) Q _ res e k w hl (Lib.hid rfl) he1 he2 (by rw [← hk, hnh]; rfl) hk2' (by omega) (by omega) (by simp; omega) L hmx) e1 (decide_eq_false (by rw [hless hmt, hz.out]; exact fun x => hl0 x.1)).symm
        · have hQ0 : Q = 0 := by
            rw [hQ]
            apply Nat.div_eq_of_lt
            have : 2 ^ n ≤ 2 ^ b := Nat.pow_le_pow_right (by decide) (by omega)
            omega
          have hmx : Hid (((0 : Nat) : Int) = (Q : Int)) := Lib.hid (by rw [hQ0])
          have hnz : N % 2 ^ b ≠ 0 := by
            have : 2 ^ n ≤ 2 ^ b := Nat.pow_le_pow_right (by decide) (by omega)
            rw [Nat.mod_eq_of_lt (by omega)]
            exact hN0
          have hx : ¬ Flt.val res * den = num := by
            cases hmt : more with
            | true => exact hmore hmt
            | false => rw [hless hmt]; exact hnz
          have hor : Hid ((bits .or .u64 (h : Int) (l : Int) != 0) = true) := by
            rw [u64_or_nat h l hh hl]
            have : h ||| l ≠ 0 := by
              intro h'
              have a1 : h ≤ h ||| l := Nat.left_le_or
              have a2 : l ≤ h ||| l := Nat.right_le_or
              omega
            exact Lib.hid (by simp; omega)
          by_cases h0 : h = 0
          · subst h0
            cases hmt : more with
            | true =>
              exact und_ret0 (und_far_0_t l n Q _ res e k w hl (Lib.hid (hlq.out rfl).symm) he1 he2 (hn64.out rfl) hk hk2' (by omega) L hmx) e1 (decide_eq_false hx).symm
            | false =>
              exact und_ret0 (und_far_0_f l n Q _ res e k w hl (Lib.hid (hlq.out rfl).symm) he1 he2 (hn64.out rfl) hk hk2' (by omega) hor L hmx) e1 (decide_eq_false hx).symm
          · have hnh := hhq.out h0
            cases hmt : more with
            | true =>
              exact und_ret (und_far_1_t h (bitLen h) hh (Lib.hid rfl) (by omega) (by omega) l (bitLen l) Q _ res e k w hl (Lib.hid rfl) he1 he2 (by rw [← hk, hnh]; rfl) hk2' (by omega) L hmx) e1 (decide_eq_false hx).symm
            | false =>
              exact und_ret (und_far_1_f h (bitLen h) hh (Lib.hid rfl) (by omega) (by omega) l (bitLen l) Q _ res e k w hl (Lib.hid rfl) he1 he2 (by rw [← hk, hnh]; rfl) hk2' (by omega) hor L hmx) e1 (decide_eq_false hx).symm

theorem hiR_le {num den r : Nat} (h : r < Flt.inf) : hiR num den r ≤ Flt.inf := by unfold hiR; split <;> omega

set_option maxHeartbeats 1000000 in
theorem edge_size (h l p q N : Nat) (e : Int) (neg more : Bool) (w : World) (hh : h < 18446744073709551616) (hl : l < 18446744073709551616) (hN : N = h * 2 ^ 64 + l) (hN0 : N ≠ 0) (hq : 0 < q) (h1 : N * q ≤ p) (h2 : p < (N + 1) * q)
    (hm : more = decide (p ≠ N * q)) (hb : more = true → 2 ^ 53 ≤ N) (he1 : -4000 ≤ e) (he2 : e ≤ 4000) :
    Calls Try.prog 52 #[.bool neg, .int .u64 (h : Int), .int .u64 (l : Int), .bool more, .int .i64 e] w (RetPair w (Brk neg (p * 2 ^ (e + 1074).toNat) (q * 2 ^ (-(e + 1074)).toNat))) := by
  have H := Lib.hid (edge_under h l p q N e more w hh hl hN hN0 hq h1 h2 hm hb he1 he2)
  generalize p * 2 ^ (e + 1074).toNat = num at *
  generalize q * 2 ^ (-(e + 1074)).toNat = den at *
  clear hN hN0 hq h1 h2 hm hb he1 he2 hh hl
  go_enter Try.func52, Try.ntmps52
  go_wp2_with fail
  refine H.out.mono ?_
  rintro e1 w1 ⟨r, ex, rfl, hD, hex, d, rfl⟩
  have hr := hD.1
  have hi := Flt.inf_lt
  have HD := Lib.hid hD
  have HX := Lib.hid hex
  clear hD hex
  have hn0 : Hid (neg64 r = 2 ^ 63 + r) := Lib.hid (by rw [neg64_eq r (by omega)]; have e0 : Flt.word false r = r := rfl; unfold Flt.opp; rw [← e0, Flt.sgn_word _ _ (by omega), Flt.rg_word _ _ (by omega)]; rfl)
  have hn1 : Hid (neg64 (r + 1) = 2 ^ 63 + (r + 1)) := Lib.hid (by rw [neg64_eq (r + 1) (by omega)]; have e0 : Flt.word false (r + 1) = r + 1 := rfl; unfold Flt.opp; rw [← e0, Flt.sgn_word _ _ (by omega), Flt.rg_word _ _ (by omega)]; rfl)
  have ht : Hid (((r : Int) + 1).toNat = r + 1) := Lib.hid (by omega)
  have hr2 : (r : Int) < 9223372036854775808 := by omega
  have hb : Below w.heap.size w (w.drewN d) := below_drewN (Below.refl _ _) d
  have hv : Hid (hiR num den r = if ex then r else r + 1) := by
    have := HX.out
    refine Lib.hid ?_
    unfold hiR
    by_cases h' : Flt.val r * den = num
    · rw [decide_eq_true h'] at this; rw [this, if_pos h', if_pos rfl]
    · rw [decide_eq_false h'] at this; rw [this, if_neg h']; rfl
  clear HX hi
  cases ex with
  | true =>
    have hv : Hid (hiR num den r = r) := hv
    cases neg with
    | true =>
      go_wp2_with fail
      go_ret2
      exact ⟨_, _, rfl, ⟨r, HD.out, by rw [hv.out]; exact hn0.out, hn0.out⟩, hb⟩
    | false =>
      go_wp2_with fail
      go_ret2
      exact ⟨_, _, rfl, ⟨r, HD.out, rfl, by rw [hv.out]; rfl⟩, hb⟩
  | false =>
    have hv : Hid (hiR num den r = r + 1) := hv
    cases neg with
    | true =>
      go_wp2_with fail
      go_ret2
      exact ⟨_, _, rfl, ⟨r, HD.out, by rw [hv.out]; exact (congrArg neg64 ht.out).trans hn1.out, hn0.out⟩, hb⟩
    | false =>
      go_wp2_with fail
      go_ret2
      exact ⟨_, _, rfl, ⟨r, HD.out, rfl, by rw [hv.out]; exact ht.out⟩, hb⟩
end Go.Proofs.Ythddodhcpfponaa
