namespace Go.Proofs.Ythddodhcpfponaa.Lm

/-- The base of the limbs. -/
abbrev B : Nat := 4294967296

def lv : List Nat → Nat
  | [] => 0
  | x :: xs => x + B * lv xs

def ok (l : List Nat) : Prop := ∀ x ∈ l, x < B

theorem ok_nil : ok [] := by intro x h; cases h
theorem ok_append {a b : List Nat} (ha : ok a) (hb : ok b) : ok (a ++ b) := by
  intro x hx; rcases List.mem_append.1 hx with h | h
  · exact ha x h
  · exact hb x h
theorem ok_left {a b : List Nat} (h : ok (a ++ b)) : ok a := fun x hx => h x (List.mem_append_left _ hx)
theorem ok_right {a b : List Nat} (h : ok (a ++ b)) : ok b := fun x hx => h x (List.mem_append_right _ hx)
theorem ok_one {x : Nat} (h : x < B) : ok [x] := by intro y hy; simp at hy; subst hy; exact h
theorem ok_take {l : List Nat} (h : ok l) (k : Nat) : ok (l.take k) := fun x hx => h x (List.mem_of_mem_take hx)
theorem ok_drop {l : List Nat} (h : ok l) (k : Nat) : ok (l.drop k) := fun x hx => h x (List.mem_of_mem_drop hx)
theorem ok_get {l : List Nat} (h : ok l) {k : Nat} (hk : k < l.length) : l[k] < B := h _ (List.getElem_mem hk)

theorem lv_append (a b : List Nat) : lv (a ++ b) = lv a + B ^ a.length * lv b := by
  induction a with
  | nil => simp [lv]
  | cons x xs ih =>
    simp only [List.cons_append, lv, ih, List.length_cons, Nat.pow_succ]
    rw [Nat.mul_add, Nat.add_assoc, Nat.mul_comm (B ^ xs.length) B, Nat.mul_assoc]
theorem lv_one (x : Nat) : lv [x] = x := by simp [lv]
theorem lv_snoc (a : List Nat) (x : Nat) : lv (a ++ [x]) = lv a + B ^ a.length * x := by rw [lv_append, lv_one]
theorem lv_lt {l : List Nat} (h : ok l) : lv l < B ^ l.length := by
  induction l with
  | nil => simp [lv]
  | cons x xs ih =>
    have hx : x < B := h x (List.mem_cons_self)
    have hxs := ih (fun y hy => h y (List.mem_cons_of_mem _ hy))
    simp only [lv, List.length_cons, Nat.pow_succ]
    have h2 : B * (lv xs + 1) ≤ B * B ^ xs.length := Nat.mul_le_mul_left _ hxs
    rw [Nat.mul_add] at h2
    rw [Nat.mul_comm (B ^ xs.length)]
    omega
theorem lv_take_succ (l : List Nat) (k : Nat) (h : k < l.length) : lv (l.take (k + 1)) = lv (l.take k) + B ^ k * l[k] := by
  rw [List.take_succ_eq_append_getElem h, lv_snoc, List.length_take, Nat.min_eq_left (by omega)]
theorem lv_take_drop (l : List Nat) (k : Nat) (h : k ≤ l.length) : lv l = lv (l.take k) + B ^ k * lv (l.drop k) := by
  conv => lhs; rw [← List.take_append_drop k l]
  rw [lv_append, List.length_take, Nat.min_eq_left h]
theorem lv_take_ge (l : List Nat) (k : Nat) (h : l.length ≤ k) : lv (l.take k) = lv l := by rw [List.take_of_length_le h]

/-- The last limb is not nought. -/
def canon (l : List Nat) : Prop := ∀ h : l ≠ [], l.getLast h ≠ 0
theorem canon_nil : canon [] := fun h => absurd rfl h

/-- Limbs without noughts at the end. -/
def trim : List Nat → List Nat
  | [] => []
  | x :: xs => if trim xs = [] ∧ x = 0 then [] else x :: trim xs

theorem trim_ok {l : List Nat} (h : ok l) : ok (trim l) := by
  induction l with
  | nil => exact ok_nil
  | cons x xs ih =>
    unfold trim
    split
    · exact ok_nil
    · intro y hy
      rcases List.mem_cons.1 hy with h' | h'
      · subst h'; exact h y List.mem_cons_self
      · exact ih (fun z hz => h z (List.mem_cons_of_mem _ hz)) y h'
theorem trim_lv (l : List Nat) : lv (trim l) = lv l := by
  induction l with
  | nil => rfl
  | cons x xs ih =>
    unfold trim
    split
    · rename_i h
      have : lv xs = 0 := by rw [← ih, h.1]; rfl
      simp [lv, h.2, this]
    · simp [lv, ih]
theorem trim_snoc_zero (l : List Nat) : trim (l ++ [0]) = trim l := by
  induction l with
  | nil => simp [trim]
  | cons x xs ih => simp only [List.cons_append, trim, ih]
theorem trim_snoc (l : List Nat) (x : Nat) (hx : x ≠ 0) : trim (l ++ [x]) = l ++ [x] := by
  induction l with
  | nil => simp [trim, hx]
  | cons y ys ih => simp only [List.cons_append, trim, ih]; simp
theorem trim_canon (l : List Nat) : canon (trim l) := by
  induction l with
  | nil => exact canon_nil
  | cons x xs ih =>
    unfold trim
    split
    · exact canon_nil
    · rename_i h
      intro hne
      by_cases ht : trim xs = []
      · have hx : x ≠ 0 := fun e => h ⟨ht, e⟩
        simp only [ht, List.getLast_singleton]; exact hx
      · rw [List.getLast_cons ht]; exact ih ht
theorem trim_of_canon {l : List Nat} (h : canon l) : trim l = l := by
  rcases List.eq_nil_or_concat l with rfl | ⟨xs, x, rfl⟩
  · rfl
  · rw [List.concat_eq_append] at *
    exact trim_snoc xs x (by have := h (by simp); simpa using this)

theorem lv_pos {l : List Nat} (hc : canon l) (hne : l ≠ []) : B ^ (l.length - 1) ≤ lv l := by
  rcases List.eq_nil_or_concat l with rfl | ⟨xs, x, rfl⟩
  · exact absurd rfl hne
  · rw [List.concat_eq_append] at *
    have hx : x ≠ 0 := by have := hc (by simp); simpa using this
    rw [lv_snoc, List.length_append, List.length_singleton, Nat.add_sub_cancel]
    have : B ^ xs.length * 1 ≤ B ^ xs.length * x := Nat.mul_le_mul_left _ (by omega)
    omega
theorem lv_zero {l : List Nat} (hc : canon l) : lv l = 0 ↔ l = [] := by
  constructor
  · intro h
    by_cases hn : l = []
    · exact hn
    · have := lv_pos hc hn
      have := Nat.pow_pos (n := l.length - 1) (show 0 < B by decide)
      omega
  · rintro rfl; rfl
theorem len_of_lv {a b : List Nat} (ha : ok a) (hb : ok b) (cb : canon b) (h : a.length < b.length) : lv a < lv b := by
  have h1 := lv_lt ha
  have h2 := lv_pos cb (by intro e; subst e; simp at h)
  have h3 : B ^ a.length ≤ B ^ (b.length - 1) := Nat.pow_le_pow_right (by decide) (by omega)
  omega
theorem lv_inj_len {a b : List Nat} (ha : ok a) (hb : ok b) (hl : a.length = b.length) (h : lv a = lv b) : a = b := by
  induction a generalizing b with
  | nil => cases b with
    | nil => rfl
    | cons => simp at hl
  | cons x xs ih => cases b with
    | nil => simp at hl
    | cons y ys =>
      have hx : x < B := ha x List.mem_cons_self
      have hy : y < B := hb y List.mem_cons_self
      simp only [lv] at h
      have h1 : x = y := by
        have e : (x + B * lv xs) % B = (y + B * lv ys) % B := by rw [h]
        rw [Nat.add_mul_mod_self_left, Nat.add_mul_mod_self_left, Nat.mod_eq_of_lt hx, Nat.mod_eq_of_lt hy] at e
        exact e
      have h2 : lv xs = lv ys := by
        subst h1
        have : B * lv xs = B * lv ys := by omega
        exact Nat.eq_of_mul_eq_mul_left (by decide) this
      rw [h1, ih (fun z hz => ha z (List.mem_cons_of_mem _ hz)) (fun z hz => hb z (List.mem_cons_of_mem _ hz)) (by simpa using hl) h2]
theorem lv_inj {a b : List Nat} (ha : ok a) (ca : canon a) (hb : ok b) (cb : canon b) (h : lv a = lv b) : a = b := by
  rcases Nat.lt_trichotomy a.length b.length with hl | hl | hl
  · have := len_of_lv ha hb cb hl; omega
  · exact lv_inj_len ha hb hl h
  · have := len_of_lv hb ha ca hl; omega


theorem lv_split (l : List Nat) (k : Nat) (h : k < l.length) : lv l = lv (l.take k) + B ^ k * (l[k] + B * lv (l.drop (k + 1))) := by
  rw [lv_take_drop l k (by omega)]
  congr 2
  rw [List.drop_eq_getElem_cons h]; rfl
theorem lt_of_limb {a b : List Nat} (ha : ok a) {k : Nat} (hka : k < a.length) (hkb : k < b.length) (hd : a.drop (k + 1) = b.drop (k + 1)) (h : a[k] < b[k]) : lv a < lv b := by
  rw [lv_split a k hka, lv_split b k hkb, hd]
  have h1 := lv_lt (ok_take ha k)
  rw [List.length_take, Nat.min_eq_left (by omega)] at h1
  have h2 : B ^ k * (a[k] + B * lv (b.drop (k + 1)) + 1) ≤ B ^ k * (b[k] + B * lv (b.drop (k + 1))) := Nat.mul_le_mul_left _ (by omega)
  rw [Nat.mul_add (B ^ k) _ 1] at h2
  omega
/-- Limbs held against limbs. -/
def cmp (a b : List Nat) : Int := if lv a < lv b then -1 else if lv b < lv a then 1 else 0
theorem cmp_neg {a b : List Nat} (h : lv a < lv b) : cmp a b = -1 := by unfold cmp; rw [if_pos h]
theorem cmp_pos {a b : List Nat} (h : lv b < lv a) : cmp a b = 1 := by unfold cmp; rw [if_neg (by omega), if_pos h]
theorem cmp_zero {a b : List Nat} (h : lv a = lv b) : cmp a b = 0 := by unfold cmp; rw [if_neg (by omega), if_neg (by omega)]

theorem add_step {out a b : List Nat} {k q x y : Nat} {ta tb : Nat} (hl : out.length = k) (hE : lv out + B ^ k * q = lv a + lv b)
    (ha : ta = lv a + B ^ k * x) (hb : tb = lv b + B ^ k * y) :
    lv (out ++ [(q + x + y) % 4294967296]) + B ^ (k + 1) * ((q + x + y) / 4294967296) = ta + tb := by
  rw [lv_snoc, hl, ha, hb, Nat.pow_succ, Nat.mul_assoc]
  have h := Nat.div_add_mod (q + x + y) 4294967296
  have h2 : B ^ k * (q + x + y) = B ^ k * (4294967296 * ((q + x + y) / 4294967296)) + B ^ k * ((q + x + y) % 4294967296) := by rw [← Nat.mul_add, h]
  have h3 : B ^ k * (q + x + y) = B ^ k * q + B ^ k * x + B ^ k * y := by rw [Nat.mul_add, Nat.mul_add]
  show lv out + B ^ k * ((q + x + y) % 4294967296) + B ^ k * (4294967296 * ((q + x + y) / 4294967296)) = _
  omega
theorem take_in (l : List Nat) {k : Nat} (h : k < l.length) : lv (l.take (k + 1)) = lv (l.take k) + B ^ k * l[k] := lv_take_succ l k h
theorem take_out (l : List Nat) {k : Nat} (h : l.length ≤ k) : lv (l.take (k + 1)) = lv (l.take k) + B ^ k * 0 := by
  rw [List.take_of_length_le (by omega), List.take_of_length_le h]; omega

theorem sub_step {out a b : List Nat} {k q x y r d : Nat} {ta tb : Nat} (hl : out.length = k) (hE : lv out + lv b = lv a + B ^ k * q)
    (ha : ta = lv a + B ^ k * x) (hb : tb = lv b + B ^ k * y) (hd : d + (q + y) = x + 4294967296 * r) :
    lv (out ++ [d]) + tb = ta + B ^ (k + 1) * r := by
  rw [lv_snoc, hl, ha, hb, Nat.pow_succ, Nat.mul_assoc]
  have h2 : B ^ k * (d + (q + y)) = B ^ k * (x + 4294967296 * r) := by rw [hd]
  rw [Nat.mul_add, Nat.mul_add, Nat.mul_add] at h2
  show lv out + B ^ k * d + (lv b + B ^ k * y) = lv a + B ^ k * x + B ^ k * (4294967296 * r)
  omega

theorem lv_set (l : List Nat) (j v : Nat) (h : j < l.length) : lv (l.set j v) + B ^ j * l[j] = lv l + B ^ j * v := by
  have h2 : j < (l.set j v).length := by simpa using h
  rw [lv_split (l.set j v) j h2, lv_split l j h]
  have e1 : (l.set j v).take j = l.take j := by rw [List.take_set]; exact List.set_eq_of_length_le (by rw [List.length_take]; omega)
  have e2 : (l.set j v).drop (j + 1) = l.drop (j + 1) := by rw [List.drop_set]; simp
  rw [e1, e2, List.getElem_set_self, Nat.mul_add, Nat.mul_add]
  omega
theorem ok_set {l : List Nat} (h : ok l) {j v : Nat} (hv : v < B) : ok (l.set j v) := by
  intro x hx
  rcases List.mem_or_eq_of_mem_set hx with h' | h'
  · exact h x h'
  · subst h'; exact hv
theorem lv_zeros (n : Nat) : lv (List.replicate n 0) = 0 := by
  induction n with
  | zero => rfl
  | succ n ih => rw [List.replicate_succ, lv, ih]; rfl
theorem ok_zeros (n : Nat) : ok (List.replicate n 0) := fun x hx => by
  have := (List.mem_replicate.1 hx).2; subst this; decide

/-- One limb of a product: position i + k. -/
theorem mul_step {out : List Nat} {i k m q x y R : Nat} (hj : i + k < out.length) (hm : i + k < m)
    (hE : lv (out.take m) + B ^ (i + k) * q = R) :
    lv ((out.set (i + k) ((x * y + out[i + k] + q) % 4294967296)).take m) + B ^ (i + (k + 1)) * ((x * y + out[i + k] + q) / 4294967296) = R + B ^ i * (x * (B ^ k * y)) := by
  have hl : i + k < (out.take m).length := by rw [List.length_take]; omega
  have h := lv_set (out.take m) (i + k) ((x * y + out[i + k] + q) % 4294967296) hl
  rw [List.getElem_take] at h
  rw [List.take_set, ← hE]
  have hd := Nat.div_add_mod (x * y + out[i + k] + q) 4294967296
  generalize (x * y + out[i + k] + q) % 4294967296 = r at *
  generalize (x * y + out[i + k] + q) / 4294967296 = d at *
  have e1 : B ^ (i + (k + 1)) * d = B ^ (i + k) * (4294967296 * d) := by
    rw [← Nat.add_assoc, Nat.pow_succ, Nat.mul_assoc]
  have e2 : B ^ i * (x * (B ^ k * y)) = B ^ (i + k) * (x * y) := by
    rw [Nat.pow_add, Nat.mul_assoc, Nat.mul_left_comm x]
  rw [e1, e2]
  have h2 : B ^ (i + k) * (4294967296 * d + r) = B ^ (i + k) * (x * y + out[i + k] + q) := by rw [hd]
  rw [Nat.mul_add, Nat.mul_add, Nat.mul_add] at h2
  omega
theorem mul_carry {x y o q : Nat} (hx : x < 4294967296) (hy : y < 4294967296) (ho : o < 4294967296) (hq : q < 4294967296) :
    x * y ≤ 18446744065119617025 ∧ x * y + o + q ≤ 18446744073709551615 := by
  have : x * y ≤ 4294967295 * 4294967295 := Nat.mul_le_mul (by omega) (by omega)
  omega
theorem mul_last {out : List Nat} {m q R : Nat} (hj : m < out.length) (hE : lv (out.take m) + B ^ m * q = R) : lv ((out.set m q).take (m + 1)) = R := by
  rw [take_in _ (by simpa using hj), List.getElem_set_self, ← hE, List.take_set, List.set_eq_of_length_le (by rw [List.length_take]; omega)]

theorem lv_drop (l : List Nat) {k : Nat} (h : k < l.length) : lv (l.drop k) = l[k] + B * lv (l.drop (k + 1)) := by
  rw [List.drop_eq_getElem_cons h]; rfl
/-- One limb of a quotient by one limb: from position k + 1 to position k. -/
theorem short_step {a out : List Nat} {k d r : Nat} (ha : k < a.length) (ho : k < out.length) (hE : lv (a.drop (k + 1)) = d * lv (out.drop (k + 1)) + r) :
    lv (a.drop k) = d * lv ((out.set k ((r * 4294967296 + a[k]) / d)).drop k) + (r * 4294967296 + a[k]) % d := by
  have ho' : k < (out.set k ((r * 4294967296 + a[k]) / d)).length := by simpa using ho
  rw [lv_drop a ha, lv_drop _ ho', List.getElem_set_self, List.drop_set, if_pos (by omega), hE]
  have h := Nat.div_add_mod (r * 4294967296 + a[k]) d
  generalize (r * 4294967296 + a[k]) / d = q at *
  generalize (r * 4294967296 + a[k]) % d = m at *
  rw [Nat.mul_add, Nat.mul_add d q]
  have e : B * (d * lv (out.drop (k + 1))) = d * (B * lv (out.drop (k + 1))) := Nat.mul_left_comm ..
  have e2 : B * r = r * 4294967296 := Nat.mul_comm ..
  omega
theorem short_lt {r x d : Nat} (hd : 0 < d) (hr : r < d) (hx : x < 4294967296) : (r * 4294967296 + x) / d < 4294967296 := by
  rw [Nat.div_lt_iff_lt_mul hd]
  have : (r + 1) * 4294967296 ≤ d * 4294967296 := Nat.mul_le_mul_right _ hr
  rw [Nat.mul_comm 4294967296 d]
  omega
end Go.Proofs.Ythddodhcpfponaa.Lm
