import Derived.Test.YthddodhcpfponaaFltC

namespace Go.Proofs.Ythddodhcpfponaa.Flt
open Ieee

/-! ### the opposite; the difference -/
def opp (x : Nat) : Nat := word (!sgn x) (rg x)
theorem rg_opp (x : Nat) : rg (opp x) = rg x := rg_word _ _ (by unfold rg; omega)
theorem sgn_opp (x : Nat) : sgn (opp x) = !sgn x := sgn_word _ _ (by unfold rg; omega)
theorem sv_opp (x : Nat) : sv (opp x) = - sv x := by
  unfold sv; rw [rg_opp, sgn_opp]; cases sgn x <;> simp
theorem opp_lt (x : Nat) : opp x < 2 ^ 64 := by unfold opp word rg; split <;> omega
theorem fin_opp {x : Nat} : Fin (opp x) ↔ Fin x := by unfold Fin; rw [rg_opp]
theorem nan_opp {x : Nat} : Nan (opp x) ↔ Nan x := by unfold Nan; rw [rg_opp]

theorem read_opp (x : Nat) : (double.read x).opposite = double.read (opp x) := by
  have h1 : opp x / 2 ^ 63 % 2 = 1 - x / 2 ^ 63 % 2 := by
    unfold opp word sgn rg
    by_cases hx : x / 2 ^ 63 % 2 = 1
    · simp only [hx]; simp <;> omega
    · have h0 : x / 2 ^ 63 % 2 = 0 := by omega
      simp only [h0]; simp <;> omega
  have h2 : opp x % 2 ^ 63 = x % 2 ^ 63 := rg_opp x
  unfold Format.read
  simp only [signWeight_double, binade_double, infRung_double, leastPlace_double, h2]
  have h3 : (opp x / 2 ^ 63 % 2 == 1) = !(x / 2 ^ 63 % 2 == 1) := by
    rw [h1]
    by_cases hx : x / 2 ^ 63 % 2 = 1
    · rw [hx]; rfl
    · have h0 : x / 2 ^ 63 % 2 = 0 := by omega
      rw [h0]; rfl
  rw [h3]
  split
  · rfl
  · split
    · rfl
    · split <;> rfl

theorem sub_eq (x y : Nat) : double.sub x y = double.add x (opp y) := by
  unfold Format.sub Format.add; rw [read_opp]

/-- What an addition of any two gives: some z, or none (no number). -/
theorem add_inf_left {x y : Nat} (hx : rg x = inf) (hy : Fin y) : double.add x y = some (word (sgn x) inf) := by
  obtain ⟨n, j, hn, _⟩ := read_fin hy
  unfold Format.add
  rw [read_inf hx, hn]
  simp only [Datum.sum, Option.map_some, Format.write, double_word, infRung_double]
theorem add_inf_right {x y : Nat} (hx : Fin x) (hy : rg y = inf) : double.add x y = some (word (sgn y) inf) := by
  obtain ⟨n, j, hn, _⟩ := read_fin hx
  unfold Format.add
  rw [read_inf hy, hn]
  simp only [Datum.sum, Option.map_some, Format.write, double_word, infRung_double]
theorem add_inf_both {x y : Nat} (hx : rg x = inf) (hy : rg y = inf) : double.add x y = if sgn x = sgn y then some (word (sgn x) inf) else none := by
  unfold Format.add
  rw [read_inf hy, read_inf hx]
  simp only [Datum.sum]
  split
  · simp only [Option.map_some, Format.write, double_word, infRung_double]
  · rfl
theorem add_nan_left {x y : Nat} (hx : Nan x) : double.add x y = none := by
  obtain ⟨f, h⟩ := read_nan hx
  unfold Format.add
  rw [h]; rfl
theorem add_nan_right {x y : Nat} (hy : Nan y) : double.add x y = none := by
  obtain ⟨f, h⟩ := read_nan hy
  unfold Format.add
  rw [h]
  unfold Datum.sum
  split <;> simp_all

theorem kinds (x : Nat) : Fin x ∨ rg x = inf ∨ Nan x := by unfold Fin Nan; omega
theorem word_inj {s t : Bool} {a b : Nat} (ha : a < 2 ^ 63) (hb : b < 2 ^ 63) (h : word s a = word t b) : s = t ∧ a = b := by
  have h1 := rg_word s a ha
  have h2 := rg_word t b hb
  have h3 := sgn_word s a ha
  have h4 := sgn_word t b hb
  rw [h] at h1 h3
  exact ⟨h3.symm.trans h4, h1.symm.trans h2⟩
theorem word_lt (s : Bool) {r : Nat} (h : r < 2 ^ 63) : word s r < 2 ^ 64 := by unfold word; split <;> omega

/-- If the sum is finite both are. -/
theorem add_some_fin {x y z : Nat} (h : double.add x y = some z) (hz : Fin z) : Fin x ∧ Fin y := by
  rcases kinds x with fx | ix | nx
  · rcases kinds y with fy | iy | ny
    · exact ⟨fx, fy⟩
    · rw [add_inf_right fx iy] at h
      injection h with h; subst h
      unfold Fin at hz; rw [rg_word _ _ inf_lt] at hz; omega
    · rw [add_nan_right ny] at h; cases h
  · rcases kinds y with fy | iy | ny
    · rw [add_inf_left ix fy] at h
      injection h with h; subst h
      unfold Fin at hz; rw [rg_word _ _ inf_lt] at hz; omega
    · rw [add_inf_both ix iy] at h
      split at h
      · injection h with h; subst h
        unfold Fin at hz; rw [rg_word _ _ inf_lt] at hz; omega
      · cases h
    · rw [add_nan_right ny] at h; cases h
  · rw [add_nan_left nx] at h; cases h

/-- A float of a given worth. -/
theorem sv_word {s : Bool} {r : Nat} (h : r < 2 ^ 63) : sv (word s r) = if s then -(val r : Int) else val r := by
  unfold sv; rw [sgn_word s r h, rg_word s r h]

theorem sv_sign {z : Int} {c : Bool} {r : Nat} (h : r < 2 ^ 63) (h0 : z = 0 → r = 0) :
    sv (word (if z = 0 then c else decide (z < 0)) r) = if z < 0 then -(val r : Int) else val r := by
  rw [sv_word h]
  by_cases hz : z = 0
  · rw [h0 hz, val_zero]; subst hz; simp
  · rw [if_neg hz]
    by_cases hl : z < 0
    · simp [hl]
    · simp [hl]
theorem sv_of {z : Int} {c : Bool} {r : Nat} (h : r < 2 ^ 63) (hv : val r = z.natAbs) :
    sv (word (if z = 0 then c else decide (z < 0)) r) = z := by
  rw [sv_sign h (fun hz => by have := le_val r; omega)]
  split <;> omega

/-- A sum whose exact worth is a float's. -/
theorem add_exact {x y : Nat} (hx : Fin x) (hy : Fin y) {r : Nat} (hr : r < inf) (hv : val r = (sv x + sv y).natAbs) :
    double.add x y = some (word (if sv x + sv y = 0 then sgn x && sgn y else decide (sv x + sv y < 0)) r) := by
  obtain ⟨z, h, r', hz, hn⟩ := add_fin hx hy
  have : r' = r := near_eq hn (by omega) hv
  subst this
  rw [h, hz]

/-- What an addition gives, for the relation of contracts: the word, or anything that is no number. -/
def IsAdd (x y z : Nat) : Prop := z < 2 ^ 64 ∧ (match double.add x y with | some r => z = r | none => Nan z)

/-- The sum and what it has lost. -/
def IsTwo (x y s l : Nat) : Prop := IsAdd x y s ∧ l < 2 ^ 64 ∧ (Fin s → Fin l ∧ sv l = sv x + sv y - sv s ∧ (sv l = 0 → l = 0)) ∧ (¬ Fin s → l = 0)

def Same (a b : Nat) : Prop := a = b ∨ Nan a ∧ Nan b

theorem IsAdd.same {x y z t : Nat} (h : IsAdd x y z) (k : IsAdd x y t) : Same z t := by
  unfold IsAdd at h k
  cases e : double.add x y with
  | none => rw [e] at h k; exact Or.inr ⟨h.2, k.2⟩
  | some r => rw [e] at h k; exact Or.inl (h.2.trans k.2.symm)

theorem not_fin_nan {x : Nat} (h : Nan x) : ¬ Fin x := by unfold Nan at h; unfold Fin; omega

theorem sv_zero_iff {x : Nat} : sv x = 0 ↔ rg x = 0 := by
  have h : val (rg x) = 0 ↔ rg x = 0 := by
    constructor
    · intro h; have := le_val (rg x); omega
    · intro h; rw [h, val_zero]
  unfold sv
  split <;> omega
theorem fin_eq {x y : Nat} (hx : x < 2 ^ 64) (hy : y < 2 ^ 64) (hs : sv x = sv y) (h0 : sv x ≠ 0) : x = y := by
  rw [← word_eq x hx, ← word_eq y hy]
  have hx0 : 0 < val (rg x) := by
    rcases Nat.eq_zero_or_pos (val (rg x)) with h | h
    · exfalso; apply h0; unfold sv; rw [h]; split <;> rfl
    · exact h
  unfold sv at hs
  cases hsx : sgn x <;> cases hsy : sgn y <;> rw [hsx, hsy] at hs <;> simp only [Bool.false_eq_true, if_false, if_true] at hs
  · rw [val_inj (r := rg x) (s := rg y) (by omega)]
  · omega
  · omega
  · rw [val_inj (r := rg x) (s := rg y) (by omega)]

theorem IsTwo.same {x y s l t m : Nat} (h : IsTwo x y s l) (k : IsTwo x y t m) : Same s t ∧ Same l m := by
  have hs := h.1.same k.1
  refine ⟨hs, Or.inl ?_⟩
  rcases hs with rfl | ⟨hn, kn⟩
  · by_cases hf : Fin s
    · obtain ⟨_, a2, a3⟩ := h.2.2.1 hf
      obtain ⟨_, b2, b3⟩ := k.2.2.1 hf
      by_cases h0 : sv l = 0
      · rw [a3 h0, b3 (by omega)]
      · exact fin_eq h.2.1 k.2.1 (by omega) h0
    · rw [h.2.2.2 hf, k.2.2.2 hf]
  · rw [h.2.2.2 (not_fin_nan hn), k.2.2.2 (not_fin_nan kn)]

/-- The program's way: the greater one first; what is left of the lesser one. -/
theorem two_way {x y s t u : Nat} (hs : double.add x y = some s) (hsf : Fin s) (hle : rg y ≤ rg x) (ht : double.sub s x = some t) (hu : double.sub y t = some u) :
    ∃ l, double.add u 0 = some l ∧ l < 2 ^ 64 ∧ Fin l ∧ sv l = sv x + sv y - sv s ∧ (sv l = 0 → l = 0) := by
  obtain ⟨fx, fy⟩ := add_some_fin hs hsf
  obtain ⟨z, hz, rs, hzw, hn⟩ := add_fin fx fy
  rw [hs] at hz
  injection hz with hz
  subst hz
  have hrs : rs < inf := by
    unfold Fin at hsf; rw [hzw, rg_word _ _ (near_lt hn)] at hsf; exact hsf
  have hz0 : sv x + sv y = 0 → rs = 0 := by
    intro h
    rw [h] at hn
    exact near_eq hn (by omega) val_zero
  have hsv : sv s = if sv x + sv y < 0 then -(val rs : Int) else val rs := by rw [hzw, sv_sign (near_lt hn) hz0]
  have hS0 : sv x + sv y = 0 → sv s = 0 := by
    intro h
    rw [hsv, hz0 h, val_zero]; split <;> rfl
  have hSp : 0 < sv x + sv y → sv s = val rs := by
    intro h
    rw [hsv, if_neg (by omega)]
  have hSn : sv x + sv y < 0 → sv s = -(val rs : Int) := by
    intro h
    rw [hsv, if_pos h]
  have habs : (sv s).natAbs = val rs := by
    rw [hsv]; split <;> omega
  have habsx : (sv x).natAbs = val (rg x) := by unfold sv; split <;> omega
  have habsy : (sv y).natAbs = val (rg y) := by unfold sv; split <;> omega
  obtain ⟨r1, r2, r3⟩ := fast_two habsx habsy habs hle hrs hn hS0 (fun h => by rw [hSp h]; omega) (fun h => by rw [hSn h]; omega)
  have hvx := val_inf_gt fx
  have hvy := val_inf_gt fy
  have hvs := val_lt hrs
  have hvle := val_le hle
  -- the first difference is exact
  obtain ⟨rt, hrt⟩ := r1
  have hrti : rt < inf := by
    apply lt_of_val
    rw [hrt]
    by_cases h0 : sv x + sv y = 0
    · have := hS0 h0; omega
    · by_cases hp : 0 < sv x + sv y
      · have := hSp hp; omega
      · have := hSn (by omega); omega
  rw [sub_eq] at ht hu
  have ht' := add_exact hsf (fin_opp.2 fx) hrti (by rw [sv_opp, hrt]; congr 1)
  rw [ht] at ht'
  injection ht' with ht'
  have hsvt : sv t = sv s - sv x := by
    rw [ht', sv_of (Nat.lt_trans hrti inf_lt) (by rw [sv_opp, hrt]; congr 1), sv_opp]; omega
  have ft : Fin t := by unfold Fin; rw [ht', rg_word _ _ (Nat.lt_trans hrti inf_lt)]; exact hrti
  obtain ⟨ru, hru⟩ := r2
  have hrui : ru < inf := by
    apply lt_of_val
    rw [hru]; omega
  have hu' := add_exact fy (fin_opp.2 ft) hrui (by rw [sv_opp, hru, hsvt]; congr 1; omega)
  rw [hu] at hu'
  injection hu' with hu'
  have hru63 := Nat.lt_trans hrui inf_lt
  have fu : Fin u := by unfold Fin; rw [hu', rg_word _ _ hru63]; exact hrui
  have hsvu : sv u = sv x + sv y - sv s := by
    rw [hu', sv_of hru63 (by rw [sv_opp, hru, hsvt]; congr 1; omega), sv_opp, hsvt]; omega
  have f0 : Fin 0 := by unfold Fin rg; rw [inf_eq]; decide
  have sv0 : sv 0 = 0 := by decide
  have sg0 : sgn 0 = false := by decide
  have hl := add_exact fu f0 (r := rg u) fu (by rw [sv0]; unfold sv; split <;> omega)
  have hsvl : sv (word (if sv u + sv 0 = 0 then sgn u && sgn 0 else decide (sv u + sv 0 < 0)) (rg u)) = sv u := by
    rw [sv_of (by unfold rg; omega) (by rw [sv0]; unfold sv; split <;> omega), sv0]; omega
  refine ⟨_, hl, word_lt _ (by unfold rg; omega), ?_, by rw [hsvl, hsvu], ?_⟩
  · unfold Fin; rw [rg_word _ _ (by unfold rg; omega)]; exact fu
  · intro h
    rw [hsvl] at h
    have hru0 : rg u = 0 := sv_zero_iff.1 h
    rw [hru0, sv0, sg0, h]
    simp [word]

/-! ### tests, as Bools -/
def nanB (x : Nat) : Bool := decide (inf < rg x)
def infB (x : Nat) : Bool := decide (rg x = inf)
def finB (x : Nat) : Bool := decide (rg x < inf)
theorem nanB_iff {x : Nat} : nanB x = true ↔ Nan x := by unfold nanB Nan; simp
theorem finB_iff {x : Nat} : finB x = true ↔ Fin x := by unfold finB Fin; simp
theorem finB_false {x : Nat} : finB x = false ↔ ¬ Fin x := by unfold finB Fin; simp
theorem finB_eq (x : Nat) : finB x = (!nanB x && !infB x) := by
  unfold finB nanB infB
  rw [Bool.eq_iff_iff]; simp; omega
theorem order_self (x : Nat) : (double.order x x != some .eq) = nanB x := by
  by_cases h : Nan x
  · rw [order_nan_left h, nanB_iff.2 h]; rfl
  · have : nanB x = false := by
      cases e : nanB x
      · rfl
      · exact absurd (nanB_iff.1 e) h
    rw [this, order_spec h h, cmp_eq.2 rfl]; rfl
theorem order_max (x : Nat) : (double.order x 9218868437227405311 == some .gt) = (infB x && !sgn x) := by
  have hm : ¬ Nan 9218868437227405311 := by unfold Nan rg; rw [inf_eq]; decide
  by_cases h : Nan x
  · rw [order_nan_left h]
    have : infB x = false := by unfold infB; unfold Nan at h; simp; omega
    rw [this]; rfl
  · rw [gt_spec h hm]
    have e1 : sv 9218868437227405311 = (val (inf - 1) : Int) := by
      have e2 : sgn 9218868437227405311 = false := by decide
      have e3 : rg 9218868437227405311 = inf - 1 := by rw [inf_eq]; decide
      unfold sv; rw [e2, e3]; rfl
    rw [e1]
    unfold infB Nan at *
    unfold sv
    have hlt := val_lt (show inf - 1 < inf by rw [inf_eq]; decide)
    by_cases hi : rg x = inf
    · rw [hi]
      cases sgn x
      · simp <;> omega
      · simp <;> omega
    · have : val (rg x) ≤ val (inf - 1) := val_le (by omega)
      cases sgn x
      · simp [hi] <;> omega
      · simp [hi] <;> omega
def sameB (x y : Nat) : Bool := x == y || nanB x && nanB y
theorem sameB_iff {x y : Nat} : sameB x y = true ↔ Same x y := by
  unfold sameB Same
  simp only [Bool.or_eq_true, beq_iff_eq, Bool.and_eq_true, nanB_iff]
theorem opp_xor (x : Nat) (h : x < 2 ^ 64) : x ^^^ 2 ^ 63 = opp x := by
  have h1 : (x ^^^ 2 ^ 63) % 2 ^ 63 = x % 2 ^ 63 := by
    rw [Nat.xor_mod_two_pow, Nat.mod_self, Nat.xor_zero]
  have h2 : (x ^^^ 2 ^ 63) / 2 ^ 63 = (x / 2 ^ 63) ^^^ 1 := by
    rw [Nat.xor_div_two_pow, Nat.div_self (by decide)]
  have h3 := Nat.div_add_mod (x ^^^ 2 ^ 63) (2 ^ 63)
  rw [h1, h2] at h3
  rw [← h3]
  unfold opp word sgn rg
  have hc : x / 2 ^ 63 = 0 ∨ x / 2 ^ 63 = 1 := by omega
  rcases hc with hc | hc
  · rw [hc]; simp
  · rw [hc]; simp
theorem rg_abs (x : Nat) : rg (rg x) = rg x := by unfold rg; omega
theorem sgn_rg (x : Nat) : sgn (rg x) = false := by
  unfold sgn rg
  have : x % 2 ^ 63 / 2 ^ 63 % 2 = 0 := by omega
  rw [this]; rfl
theorem sv_rg (x : Nat) : sv (rg x) = val (rg x) := by unfold sv; rw [sgn_rg, rg_abs]; rfl
end Go.Proofs.Ythddodhcpfponaa.Flt
