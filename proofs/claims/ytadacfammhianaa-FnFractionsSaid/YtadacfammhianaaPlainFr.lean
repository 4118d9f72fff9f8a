/- The laws of fractions, in plain terms. -/
import Derived.Test.YtadacfammhianaaFrac6
import Derived.Test.YtadacfammhianaaSum
namespace Go.Proofs.Ytadacfammhianaa
open Go.RowKit

/-- A fraction in lowest terms. -/
def Low (x y : Int) : Prop := 1 ≤ y ∧ Int.gcd x y = 1
/-- A drawn one. -/
def Drawn (x y : Int) : Prop := Low x y ∧ (-14 ≤ x ∧ x ≤ 14) ∧ y ≤ 8
theorem low_uniq {x y u v : Int} (h : Low x y) (k : Low u v) (e : x * v = u * y) : x = u ∧ y = v := by
  have hy : y.natAbs ∣ v.natAbs := by
    have h1 : y.natAbs ∣ v.natAbs * x.natAbs := by
      refine ⟨u.natAbs, ?_⟩
      rw [← Int.natAbs_mul, ← Int.natAbs_mul, Int.mul_comm v, e, Int.mul_comm]
    exact Nat.Coprime.dvd_of_dvd_mul_right (n := x.natAbs) (by have := h.2; unfold Int.gcd at this; exact Nat.Coprime.symm this) h1
  have hv : v.natAbs ∣ y.natAbs := by
    have h1 : v.natAbs ∣ y.natAbs * u.natAbs := by
      refine ⟨x.natAbs, ?_⟩
      rw [← Int.natAbs_mul, ← Int.natAbs_mul, Int.mul_comm y, ← e, Int.mul_comm]
    exact Nat.Coprime.dvd_of_dvd_mul_right (n := u.natAbs) (by have := k.2; unfold Int.gcd at this; exact Nat.Coprime.symm this) h1
  have hyv := Nat.dvd_antisymm hy hv
  have e2 : y = v := by have := h.1; have := k.1; omega
  subst e2
  exact ⟨Int.eq_of_mul_eq_mul_right (by have := h.1; omega) e, rfl⟩
theorem ok_of_low {x y : Int} (h : Low x y) (hx : -1000000000 ≤ x ∧ x ≤ 1000000000) (hy : y ≤ 1000000000) : fracOkP x y = true := by
  simp only [fracOkP, inB, Bool.and_eq_true, decide_eq_true_eq]
  have := h.1
  exact ⟨⟨by omega, by omega⟩, h.2⟩
theorem low_of_ok {x y : Int} (h : fracOkP x y = true) : Low x y := ⟨(of_fracOk h).2.1.1, (of_fracOk h).2.2⟩
/-- What a reduction of t over b gives. -/
theorem red_pos {t b : Int} (hb : 1 ≤ b) : Low (rt t b) (rb t b) ∧ rt t b * b = t * rb t b ∧ (rt t b).natAbs ≤ t.natAbs ∧ (rb t b).natAbs ≤ b.natAbs := by
  obtain ⟨hg, _⟩ := gcd_bd t b (by omega)
  have e1 : rt t b = t.tdiv (Int.gcd t b) := if_neg (by omega)
  have e2 : rb t b = b.tdiv (Int.gcd t b) := if_neg (by omega)
  have d1 : t.tdiv (Int.gcd t b) * (Int.gcd t b : Int) = t := Int.tdiv_mul_cancel (Int.gcd_dvd_left t b)
  have d2 : b.tdiv (Int.gcd t b) * (Int.gcd t b : Int) = b := Int.tdiv_mul_cancel (Int.gcd_dvd_right t b)
  have a1 := tdiv_abs t (Int.gcd t b)
  have a2 := tdiv_abs b (Int.gcd t b)
  rw [e1, e2]
  refine ⟨⟨?_, ?_⟩, ?_, a1, a2⟩
  · have : 0 < b.tdiv (Int.gcd t b) * (Int.gcd t b : Int) := by omega
    have := Int.pos_of_mul_pos_left this (by omega)
    omega
  · have hgn : 0 < Nat.gcd t.natAbs b.natAbs := by have h := hg; unfold Int.gcd at h; omega
    have := Nat.coprime_div_gcd_div_gcd (m := t.natAbs) (n := b.natAbs) hgn
    unfold Int.gcd
    rw [Int.natAbs_tdiv, Int.natAbs_tdiv, Int.natAbs_natCast]
    exact this
  · generalize (Int.gcd t b : Int) = g at *
    generalize t.tdiv g = p at *
    generalize b.tdiv g = q at *
    grind
theorem red_neg {t b : Int} (hb : b ≤ -1) : Low (rt t b) (rb t b) ∧ rt t b * b = t * rb t b ∧ (rt t b).natAbs ≤ t.natAbs ∧ (rb t b).natAbs ≤ b.natAbs := by
  obtain ⟨h1, h2⟩ := rok_neg t b (by omega)
  obtain ⟨k1, k2, k3, k4⟩ := red_pos (t := -t) (b := -b) (by omega)
  rw [h1, h2] at *
  exact ⟨k1, by grind, by omega, by omega⟩
theorem red_any {t b : Int} (hb : b ≠ 0) : Low (rt t b) (rb t b) ∧ rt t b * b = t * rb t b ∧ (rt t b).natAbs ≤ t.natAbs ∧ (rb t b).natAbs ≤ b.natAbs := by
  by_cases h : b < 0
  · exact red_neg (by omega)
  · exact red_pos (by omega)
/-- A reduction within the room. -/
theorem red_res {t b : Int} (hb : b ≠ 0) (ht : t.natAbs ≤ 1000000000) (hbb : b.natAbs ≤ 1000000000) :
    rok t b = true ∧ ∃ p q, resT t b = p ∧ resB t b = q ∧ Low p q ∧ p * b = t * q ∧ p.natAbs ≤ t.natAbs ∧ q.natAbs ≤ b.natAbs := by
  obtain ⟨k1, k2, k3, k4⟩ := red_any (t := t) hb
  have hok : rok t b = true := ok_of_low k1 (by omega) (by have := k1.1; omega)
  exact ⟨hok, rt t b, rb t b, by simp [resT, hok], by simp [resB, hok], k1, k2, k3, k4⟩
theorem mul_abs {a b : Int} {m n : Nat} (ha : a.natAbs ≤ m) (hb : b.natAbs ≤ n) : (a * b).natAbs ≤ m * n := by
  rw [Int.natAbs_mul]; exact Nat.mul_le_mul ha hb
theorem low_ne {x y : Int} (h : Low x y) : y ≠ 0 := by have := h.1; omega
theorem add_open {x y u v : Int} {m n k l : Nat} (h : Low x y) (j : Low u v) (hx : x.natAbs ≤ m) (hy : y.natAbs ≤ n) (hu : u.natAbs ≤ k) (hv : v.natAbs ≤ l) (hm : m ≤ 30000) (hn : n ≤ 30000) (hk : k ≤ 30000 ) (hl : l ≤ 30000) (hs : m * l + k * n ≤ 1000000000) :
    addOk x y u v = true ∧ ∃ p q, addT x y u v = p ∧ addB x y u v = q ∧ Low p q ∧ p * (y * v) = (x * v + u * y) * q ∧ p.natAbs ≤ m * l + k * n ∧ q.natAbs ≤ n * l := by
  have o1 := ok_of_low h (by omega) (by omega)
  have o2 := ok_of_low j (by omega) (by omega)
  have b1 := mul_abs hx hv
  have b2 := mul_abs hu hy
  have b3 := mul_abs hy hv
  have hnl : n * l ≤ 30000 * 30000 := Nat.mul_le_mul hn hl
  obtain ⟨r, p, q, e1, e2, k1, k2, k3, k4⟩ := red_res (t := x * v + u * y) (b := y * v) (Int.mul_ne_zero (low_ne h) (low_ne j)) (by omega) (by omega)
  exact ⟨by simp [addOk, o1, o2, r], p, q, by simp [addT, o1, o2, e1], by simp [addB, o1, o2, e2], k1, k2, by omega, by omega⟩
theorem times_open {x y u v : Int} {m n k l : Nat} (h : Low x y) (j : Low u v) (hx : x.natAbs ≤ m) (hy : y.natAbs ≤ n) (hu : u.natAbs ≤ k) (hv : v.natAbs ≤ l) (hm : m ≤ 30000) (hn : n ≤ 30000) (hk : k ≤ 30000) (hl : l ≤ 30000) :
    timesOk x y u v = true ∧ ∃ p q, timesT x y u v = p ∧ timesB x y u v = q ∧ Low p q ∧ p * (y * v) = (x * u) * q ∧ p.natAbs ≤ m * k ∧ q.natAbs ≤ n * l := by
  have o1 := ok_of_low h (by omega) (by omega)
  have o2 := ok_of_low j (by omega) (by omega)
  have b1 := mul_abs hx hu
  have b3 := mul_abs hy hv
  have hnl : n * l ≤ 30000 * 30000 := Nat.mul_le_mul hn hl
  have hmk : m * k ≤ 30000 * 30000 := Nat.mul_le_mul hm hk
  obtain ⟨r, p, q, e1, e2, k1, k2, k3, k4⟩ := red_res (t := x * u) (b := y * v) (Int.mul_ne_zero (low_ne h) (low_ne j)) (by omega) (by omega)
  exact ⟨by simp [timesOk, o1, o2, r], p, q, by simp [timesT, o1, o2, e1], by simp [timesB, o1, o2, e2], k1, k2, by omega, by omega⟩
theorem divide_open {x y u v : Int} {m n k l : Nat} (h : Low x y) (j : Low u v) (h0 : u ≠ 0) (hx : x.natAbs ≤ m) (hy : y.natAbs ≤ n) (hu : u.natAbs ≤ k) (hv : v.natAbs ≤ l) (hm : m ≤ 30000) (hn : n ≤ 30000) (hk : k ≤ 30000) (hl : l ≤ 30000) :
    divideOk x y u v = true ∧ ∃ p q, divideT x y u v = p ∧ divideB x y u v = q ∧ Low p q ∧ p * (y * u) = (x * v) * q ∧ p.natAbs ≤ m * l ∧ q.natAbs ≤ n * k := by
  have o1 := ok_of_low h (by omega) (by omega)
  have o2 := ok_of_low j (by omega) (by omega)
  have b1 := mul_abs hx hv
  have b3 := mul_abs hy hu
  have hnl : m * l ≤ 30000 * 30000 := Nat.mul_le_mul hm hl
  have hmk : n * k ≤ 30000 * 30000 := Nat.mul_le_mul hn hk
  obtain ⟨r, p, q, e1, e2, k1, k2, k3, k4⟩ := red_res (t := x * v) (b := y * u) (Int.mul_ne_zero (low_ne h) h0) (by omega) (by omega)
  have hz : (u == 0) = false := by simpa using h0
  exact ⟨by simp [divideOk, o1, o2, r, hz], p, q, by simp [divideT, o1, o2, e1, hz], by simp [divideB, o1, o2, e2, hz], k1, k2, by omega, by omega⟩
theorem divide_zero {x y u v : Int} (h0 : u = 0) : divideOk x y u v = false ∧ divideT x y u v = 0 ∧ divideB x y u v = 0 := by subst h0; simp [divideOk, divideT, divideB]

/-- Distribution. -/
theorem distr_eq {s sb x1 y1 x2 y2 x3 y3 u v p q : Int} (n1 : y1 ≠ 0) (n2 : y2 ≠ 0) (n3 : y3 ≠ 0) (h1 : s * (y1*y2) = (x1*y2+x2*y1)*sb) (h2 : u*(y1*y3) = x1*x3*v) (h3 : p*(y2*y3) = x2*x3*q) : (s*x3)*(v*q) = (u*q+p*v)*(sb*y3) := by
  have h : ((s*x3)*(v*q)) * (y1*y2*y3) = ((u*q+p*v)*(sb*y3)) * (y1*y2*y3) := by grind
  exact Int.eq_of_mul_eq_mul_right (Int.mul_ne_zero (Int.mul_ne_zero n1 n2) n3) h
theorem cross {p q t b u v t' b' : Int} (n1 : b ≠ 0) (n2 : b' ≠ 0) (h1 : p * b = t * q) (h2 : u * b' = t' * v) (h : t * b' = t' * b) : p * v = u * q := by
  have h : (p * v) * (b * b') = (u * q) * (b * b') := by
    have e1 : (p * v) * (b * b') = (p * b) * (v * b') := by grind
    have e2 : (u * q) * (b * b') = (u * b') * (q * b) := by grind
    rw [e1, e2, h1, h2]
    have : t * q * (v * b') = (t * b') * (q * v) := by grind
    rw [this, h]; grind
  exact Int.eq_of_mul_eq_mul_right (Int.mul_ne_zero n1 n2) h
theorem cmp_neg (a b : Int) : cmpI a b = -(cmpI b a) ∧ (cmpI a b = 0 ↔ a = b) ∧ -1 ≤ cmpI b a ∧ cmpI b a ≤ 1 := by
  unfold cmpI
  repeat' split
  all_goals omega
theorem floor_bounds {x y : Int} (h : fracOkP x y = true) (hx : -14 ≤ x ∧ x ≤ 14) : floorP x y * y ≤ x ∧ x < (floorP x y + 1) * y ∧ -14 ≤ floorP x y ∧ floorP x y ≤ 14 := by
  have hy := (of_fracOk h).2.1.1
  have e : floorP x y = x / y := by simp [floorP, h]
  have e1 := Int.emod_nonneg x (show y ≠ 0 by omega)
  have e2 := Int.emod_lt_of_pos x (show 0 < y by omega)
  have e3 := Int.mul_ediv_add_emod x y
  rw [Int.mul_comm] at e3
  rw [e, Int.add_mul, Int.one_mul]
  refine ⟨by omega, by omega, ?_, ?_⟩
  · apply Int.le_ediv_of_mul_le (by omega)
    have : 14 * 1 ≤ 14 * y := Int.mul_le_mul_of_nonneg_left (by omega) (by omega)
    omega
  · by_cases hb : x / y ≤ 14
    · exact hb
    · exfalso
      have := Int.mul_le_mul_of_nonneg_right (show 15 ≤ x / y by omega) (show 0 ≤ y by omega)
      omega
theorem low_nat {y : Int} {x : Int} (h : Drawn x y) : x.natAbs ≤ 14 ∧ y.natAbs ≤ 8 := by
  obtain ⟨⟨h1, _⟩, h2, h3⟩ := h
  omega
theorem low_zero : Low 0 1 := ⟨by decide, by decide⟩
theorem add_again {x y u v p q p' q' : Int} (h : Low x y) (j : Low u v) (k : Low p q) (k' : Low p' q') (e : p * (y * v) = (x * v + u * y) * q) (e' : p' * (v * y) = (u * y + x * v) * q') : p' = p ∧ q' = q :=
  low_uniq k' k (cross (Int.mul_ne_zero (low_ne j) (low_ne h)) (Int.mul_ne_zero (low_ne h) (low_ne j)) e' e (by grind))
theorem frac_plan {x1 y1 x2 y2 x3 y3 : Int} (h1 : Drawn x1 y1) (h2 : Drawn x2 y2) (h3 : Drawn x3 y3) : ∃ s sb p q u v e f : Int,
    (addOk x1 y1 x2 y2 = true ∧ addT x1 y1 x2 y2 = s ∧ addB x1 y1 x2 y2 = sb) ∧
    (timesOk s sb x3 y3 = true ∧ timesT s sb x3 y3 = p ∧ timesB s sb x3 y3 = q) ∧
    (timesOk x1 y1 x3 y3 = true ∧ timesT x1 y1 x3 y3 = u ∧ timesB x1 y1 x3 y3 = v) ∧
    (timesOk x2 y2 x3 y3 = true ∧ timesT x2 y2 x3 y3 = e ∧ timesB x2 y2 x3 y3 = f) ∧
    (addOk u v e f = true ∧ addT u v e f = p ∧ addB u v e f = q) ∧
    (sumO [(x2, y2), (x1, y1)] = true ∧ sumT [(x2, y2), (x1, y1)] = s ∧ sumB [(x2, y2), (x1, y1)] = sb) ∧ fracOkP p q = true := by
  have n1 := low_nat h1
  have n2 := low_nat h2
  have n3 := low_nat h3
  obtain ⟨s0, s, sb, s1, s2, sL, sE, sN, sM⟩ := add_open (m := 14) (n := 8) (k := 14) (l := 8) h1.1 h2.1 n1.1 n1.2 n2.1 n2.2 (by omega) (by omega) (by omega) (by omega) (by omega)
  obtain ⟨p0, p, q, p1', p2', pL, pE, pN, pM⟩ := times_open (m := 224) (n := 64) (k := 14) (l := 8) sL h3.1 sN sM n3.1 n3.2 (by omega) (by omega) (by omega) (by omega)
  obtain ⟨u0, u, v, u1, u2, uL, uE, uN, uM⟩ := times_open (m := 14) (n := 8) (k := 14) (l := 8) h1.1 h3.1 n1.1 n1.2 n3.1 n3.2 (by omega) (by omega) (by omega) (by omega)
  obtain ⟨e0, e, f, e1, e2, eL, eE, eN, eM⟩ := times_open (m := 14) (n := 8) (k := 14) (l := 8) h2.1 h3.1 n2.1 n2.2 n3.1 n3.2 (by omega) (by omega) (by omega) (by omega)
  obtain ⟨q0, p', q', q1, q2, qL, qE, qN, qM⟩ := add_open (m := 196) (n := 64) (k := 196) (l := 64) uL eL uN uM eN eM (by omega) (by omega) (by omega) (by omega) (by omega)
  have hD := distr_eq (low_ne h1.1) (low_ne h2.1) (low_ne h3.1) sE uE eE
  have hq := low_uniq qL pL (cross (Int.mul_ne_zero (low_ne uL) (low_ne eL)) (Int.mul_ne_zero (low_ne sL) (low_ne h3.1)) qE pE hD.symm)
  obtain ⟨z0, z, zb, z1, z2, zL, zE, zN, zM⟩ := add_open (m := 0) (n := 1) (k := 14) (l := 8) low_zero h2.1 (by decide) (by decide) n2.1 n2.2 (by omega) (by omega) (by omega) (by omega) (by omega)
  have hz := low_uniq zL h2.1 (by grind)
  rw [hz.1] at z1
  rw [hz.2] at z2
  obtain ⟨t0, t, tb, t1, t2, tL, tE, tN, tM⟩ := add_open (m := 14) (n := 8) (k := 14) (l := 8) h2.1 h1.1 n2.1 n2.2 n1.1 n1.2 (by omega) (by omega) (by omega) (by omega) (by omega)
  have ht := add_again h1.1 h2.1 sL tL sE tE
  have hS : sumS [(x2, y2), (x1, y1)] 2 = (s, sb, true) := by
    rw [sumS, sumS, sumS]
    simp [p1, p2, pnth, z0, z1, z2, t0, t1, t2, ht.1, ht.2]
  have hO : sumO [(x2, y2), (x1, y1)] = true := by simp [sumO, sO, hS]
  exact ⟨s, sb, p, q, u, v, e, f, ⟨s0, s1, s2⟩, ⟨p0, p1', p2'⟩, ⟨u0, u1, u2⟩, ⟨e0, e1, e2⟩, ⟨q0, by rw [q1, hq.1], by rw [q2, hq.2]⟩, ⟨hO, by simp [sumT, hO, sT, hS], by simp [sumB, hO, sB, hS]⟩, ok_of_low pL (by omega) (by omega)⟩
theorem frac_plan2 {x1 y1 x2 y2 : Int} (h1 : Drawn x1 y1) (h2 : Drawn x2 y2) (h0 : x2 ≠ 0) : ∃ d db : Int,
    (divideOk x1 y1 x2 y2 = true ∧ divideT x1 y1 x2 y2 = d ∧ divideB x1 y1 x2 y2 = db) ∧
    (timesOk d db x2 y2 = true ∧ timesT d db x2 y2 = x1 ∧ timesB d db x2 y2 = y1) := by
  have n1 := low_nat h1
  have n2 := low_nat h2
  obtain ⟨d0, d, db, d1, d2, dL, dE, dN, dM⟩ := divide_open (m := 14) (n := 8) (k := 14) (l := 8) h1.1 h2.1 h0 n1.1 n1.2 n2.1 n2.2 (by omega) (by omega) (by omega) (by omega)
  obtain ⟨e0, e, f, e1, e2, eL, eE, eN, eM⟩ := times_open (m := 112) (n := 112) (k := 14) (l := 8) dL h2.1 dN dM n2.1 n2.2 (by omega) (by omega) (by omega) (by omega)
  have hq := low_uniq eL h1.1 (by
    have k : (e * y1) * (db * (y2 * x2)) = (x1 * f) * (db * (y2 * x2)) := by grind
    exact Int.eq_of_mul_eq_mul_right (Int.mul_ne_zero (low_ne dL) (Int.mul_ne_zero (low_ne h2.1) h0)) k)
  exact ⟨d, db, ⟨d0, d1, d2⟩, e0, by rw [e1, hq.1], by rw [e2, hq.2]⟩
theorem frac_plan3 {x1 y1 x2 y2 : Int} (h1 : Drawn x1 y1) (h2 : Drawn x2 y2) :
    cmpP x1 y1 x2 y2 = -(cmpP x2 y2 x1 y1) ∧ (cmpP x1 y1 x2 y2 = 0 ↔ (x1 = x2 ∧ y1 = y2)) ∧ (-1 ≤ cmpP x2 y2 x1 y1 ∧ cmpP x2 y2 x1 y1 ≤ 1) := by
  have o1 := ok_of_low h1.1 (by have := h1.2; omega) (by have := h1.2; omega)
  have o2 := ok_of_low h2.1 (by have := h2.2; omega) (by have := h2.2; omega)
  have e1 : cmpP x1 y1 x2 y2 = cmpI (x1 * y2) (x2 * y1) := by simp [cmpP, o1, o2]
  have e2 : cmpP x2 y2 x1 y1 = cmpI (x2 * y1) (x1 * y2) := by simp [cmpP, o1, o2]
  obtain ⟨k1, k2, k3, k4⟩ := cmp_neg (x1 * y2) (x2 * y1)
  rw [e1, e2]
  refine ⟨k1, k2.trans ⟨fun e => low_uniq h1.1 h2.1 e, fun e => by rw [e.1, e.2]⟩, k3, k4⟩
theorem cmp_flag {c x1 y1 x2 y2 : Int} (h : c = 0 ↔ (x1 = x2 ∧ y1 = y2)) : ((c == 0) == (decide (x1 = x2) && decide (y1 = y2))) = true := by
  by_cases e : c = 0
  · obtain ⟨e1, e2⟩ := h.1 e
    subst e1 e2 e
    simp
  · have e2 : ¬ (x1 = x2 ∧ y1 = y2) := fun q => e (h.2 q)
    have e3 : (decide (x1 = x2) && decide (y1 = y2)) = false := by
      by_cases f1 : x1 = x2
      · have f2 : ¬ y1 = y2 := fun f => e2 ⟨f1, f⟩
        simp [f2]
      · simp [f1]
    rw [e3, show (c == 0) = false by simpa using e]
    rfl
theorem frac_tail {x1 y1 x2 y2 : Int} (h1 : Drawn x1 y1) (h2 : Drawn x2 y2) : ∃ cc fl : Int, cmpP x1 y1 x2 y2 = -cc ∧ cmpP x2 y2 x1 y1 = cc ∧ floorP x1 y1 = fl ∧
    (-1 ≤ cc ∧ cc ≤ 1) ∧ ((-cc == -cc) = true) ∧ (-cc = 0 ↔ (x1 = x2 ∧ y1 = y2)) ∧
    (-14 ≤ fl ∧ fl ≤ 14) ∧ (-22 ≤ fl * y1 ∧ fl * y1 ≤ 14) ∧ (-14 ≤ (fl + 1) * y1 ∧ (fl + 1) * y1 ≤ 22) ∧ decide (fl * y1 ≤ x1) = true ∧ decide (x1 < (fl + 1) * y1) = true := by
  obtain ⟨m1, m2, m3⟩ := frac_plan3 h1 h2
  have hok := ok_of_low h1.1 (by have := h1.2; omega) (by have := h1.2; omega)
  obtain ⟨l1, l2, l3, l4⟩ := floor_bounds hok h1.2.1
  have hy := h1.1.1
  have hd := h1.2
  refine ⟨cmpP x2 y2 x1 y1, floorP x1 y1, m1, rfl, rfl, m3, by simp, (by rw [← m1]; exact m2), ⟨l3, l4⟩, ?_, ?_, by simpa using l1, by simpa using l2⟩
  · rw [Int.add_mul, Int.one_mul] at l2; omega
  · have : (floorP x1 y1 + 1) * y1 = floorP x1 y1 * y1 + y1 := by rw [Int.add_mul, Int.one_mul]
    omega
end Go.Proofs.Ytadacfammhianaa
