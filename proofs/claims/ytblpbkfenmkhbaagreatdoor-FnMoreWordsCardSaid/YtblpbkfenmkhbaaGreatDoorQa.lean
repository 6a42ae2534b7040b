/- The numbers of a source. Conditions: as each theorem says. -/
namespace Go.Proofs.YtblpbkfenmkhbaaGreatDoor
/-- the source's next state -/
def nextH (h : Nat) : Nat := (h * 6364136223846793005 + 1442695040888963407) % 18446744073709551616
/-- the source's states -/
def hs (h : Nat) : Nat → Nat
  | 0 => h
  | t + 1 => nextH (hs h t)
/-- the 24 bits that are taken of a state -/
def top24 (h : Nat) : Nat := h / 8589934592 % 16777216
theorem hs_add (h s : Nat) : ∀ t, hs h (s + t) = hs (hs h s) t
  | 0 => rfl
  | t + 1 => by show nextH (hs h (s + t)) = nextH (hs (hs h s) t); rw [hs_add h s t]
theorem hs_lt {h : Nat} (hh : h < 18446744073709551616) : ∀ t, hs h t < 18446744073709551616
  | 0 => hh
  | _ + 1 => Nat.mod_lt _ (by decide)
/-- a state's lower 57 bits -/
def low57 (h t : Nat) : Nat := hs h t % 144115188075855872
theorem low57_lt (h t : Nat) : low57 h t < 144115188075855872 := Nat.mod_lt _ (by decide)
theorem top24_low (h t : Nat) : top24 (hs h t) = low57 h t / 8589934592 := by unfold top24 low57; omega
theorem low57_succ (h t : Nat) : low57 h (t + 1) = (low57 h t * 6364136223846793005 + 1442695040888963407) % 144115188075855872 := by
  show nextH (hs h t) % 144115188075855872 = _
  unfold nextH low57
  rw [Nat.mod_mod_of_dvd _ (by decide : 144115188075855872 ∣ 18446744073709551616)]
  omega
/-- the numbers of 2^k steps at once -/
def dbl : Nat → Nat × Nat
  | 0 => (6364136223846793005 % 144115188075855872, 1442695040888963407 % 144115188075855872)
  | k + 1 => ((dbl k).1 * (dbl k).1 % 144115188075855872, ((dbl k).2 * (dbl k).1 + (dbl k).2) % 144115188075855872)
theorem aff2 (m x A C : Nat) : ((x * A + C) % m * A + C) % m = (x * (A * A % m) + (C * A + C) % m) % m := by
  have e1 : ((x * A + C) % m * A + C) % m = ((x * A + C) * A + C) % m := by
    rw [Nat.add_mod, Nat.mul_mod, Nat.mod_mod, ← Nat.mul_mod, ← Nat.add_mod]
  have e2 : (x * (A * A % m) + (C * A + C) % m) % m = (x * (A * A) + (C * A + C)) % m := by
    rw [Nat.add_mod, Nat.mul_mod, Nat.mod_mod, Nat.mod_mod, ← Nat.mul_mod, ← Nat.add_mod]
  rw [e1, e2]
  congr 1
  rw [Nat.add_mul, Nat.mul_assoc, Nat.add_assoc]
theorem jump (h : Nat) : ∀ k t, low57 h (t + 2 ^ k) = (low57 h t * (dbl k).1 + (dbl k).2) % 144115188075855872
  | 0, t => by
    show low57 h (t + 1) = _
    rw [low57_succ]
    show _ = (low57 h t * (6364136223846793005 % 144115188075855872) + 1442695040888963407 % 144115188075855872) % 144115188075855872
    rw [Nat.add_mod, Nat.mul_mod, Nat.add_mod (low57 h t * _), Nat.mul_mod (low57 h t) (6364136223846793005 % 144115188075855872)]
  | k + 1, t => by
    rw [Nat.pow_succ, Nat.mul_two, ← Nat.add_assoc, jump h k (t + 2 ^ k), jump h k t, aff2]
    rfl
theorem dbl_small : ∀ k, k < 33 → (dbl k).1 % 2 ^ (k + 1) = 1 % 2 ^ (k + 1) ∧ (dbl k).2 % 2 ^ (k + 1) = 2 ^ k := by decide
/-- every residue is met -/
theorem met (h : Nat) : ∀ k, k ≤ 33 → ∀ t r, r < 2 ^ k → ∃ n, n < 2 ^ k ∧ low57 h (t + n) % 2 ^ k = r
  | 0, _, t, r, hr => ⟨0, by decide, by have : r = 0 := by simpa using hr
                                        subst this; simp [Nat.mod_one]⟩
  | k + 1, hk, t, r, hr => by
    have hp : 0 < 2 ^ k := Nat.two_pow_pos k
    obtain ⟨n, hn, he⟩ := met h k (by omega) t (r % 2 ^ k) (Nat.mod_lt _ hp)
    have h2 : 2 ^ (k + 1) = 2 ^ k * 2 := Nat.pow_succ ..
    by_cases hx : low57 h (t + n) % 2 ^ (k + 1) = r
    · exact ⟨n, by omega, hx⟩
    · refine ⟨n + 2 ^ k, by omega, ?_⟩
      obtain ⟨d1, d2⟩ := dbl_small k (by omega)
      have hd : 2 ^ (k + 1) ∣ 144115188075855872 := by
        have : (144115188075855872 : Nat) = 2 ^ 57 := by decide
        rw [this]
        exact Nat.pow_dvd_pow 2 (by omega)
      rw [← Nat.add_assoc, jump, Nat.mod_mod_of_dvd _ hd, Nat.add_mod, Nat.mul_mod, d1, d2, ← Nat.mul_mod, Nat.mul_one]
      generalize low57 h (t + n) = X at hx he
      generalize 2 ^ (k + 1) = Q at *
      generalize 2 ^ k = P at *
      subst h2
      have hX := Nat.mod_add_div X (P * 2)
      have hs : X % (P * 2) < P * 2 := Nat.mod_lt _ (by omega)
      have hsp : X % (P * 2) % P = X % P := Nat.mod_mod_of_dvd _ ⟨2, rfl⟩
      rw [he] at hsp
      rw [← Nat.add_mod_mod, Nat.mod_eq_of_lt (show P < P * 2 by omega)]
      generalize X % (P * 2) = s at *
      rcases Nat.lt_or_ge s P with h3 | h3
      · rw [Nat.mod_eq_of_lt h3] at hsp
        rcases Nat.lt_or_ge r P with h4 | h4
        · rw [Nat.mod_eq_of_lt h4] at hsp; omega
        · have : r % P = r - P := by rw [Nat.mod_eq_sub_mod h4, Nat.mod_eq_of_lt (by omega)]
          rw [Nat.mod_eq_of_lt (by omega)]; omega
      · have h5 : s % P = s - P := by rw [Nat.mod_eq_sub_mod h3, Nat.mod_eq_of_lt (by omega)]
        rw [h5] at hsp
        rcases Nat.lt_or_ge r P with h4 | h4
        · rw [Nat.mod_eq_of_lt h4] at hsp
          rw [Nat.mod_eq_sub_mod (by omega), Nat.mod_eq_of_lt (by omega)]; omega
        · have : r % P = r - P := by rw [Nat.mod_eq_sub_mod h4, Nat.mod_eq_of_lt (by omega)]
          omega
theorem parity (h t : Nat) : ∀ n, low57 h (t + n) % 2 = (low57 h t + n) % 2
  | 0 => rfl
  | n + 1 => by
    have := parity h t n
    rw [← Nat.add_assoc, low57_succ]
    omega
/-- the numbers of j times 2^22 steps -/
def itr : Nat → Nat × Nat
  | 0 => (1, 0)
  | j + 1 => ((itr j).1 * (dbl 22).1 % 144115188075855872, ((itr j).2 * (dbl 22).1 + (dbl 22).2) % 144115188075855872)
theorem aff3 (m x A C A2 C2 : Nat) : ((x * A + C) % m * A2 + C2) % m = (x * (A * A2 % m) + (C * A2 + C2) % m) % m := by
  have e1 : ((x * A + C) % m * A2 + C2) % m = ((x * A + C) * A2 + C2) % m := by
    rw [Nat.add_mod, Nat.mul_mod, Nat.mod_mod, ← Nat.mul_mod, ← Nat.add_mod]
  have e2 : (x * (A * A2 % m) + (C * A2 + C2) % m) % m = (x * (A * A2) + (C * A2 + C2)) % m := by
    rw [Nat.add_mod, Nat.mul_mod, Nat.mod_mod, Nat.mod_mod, ← Nat.mul_mod, ← Nat.add_mod]
  rw [e1, e2]
  congr 1
  rw [Nat.add_mul, Nat.mul_assoc, Nat.add_assoc]
theorem far (h t : Nat) : ∀ j, low57 h (t + j * 4194304) = (low57 h t * (itr j).1 + (itr j).2) % 144115188075855872
  | 0 => by
    have := low57_lt h t
    show low57 h (t + 0 * 4194304) = (low57 h t * 1 + 0) % 144115188075855872
    rw [Nat.zero_mul, Nat.add_zero, Nat.mul_one, Nat.add_zero, Nat.mod_eq_of_lt this]
  | j + 1 => by
    have e : t + (j + 1) * 4194304 = t + j * 4194304 + 2 ^ 22 := by omega
    rw [e, jump h 22, far h t j, aff3]
    rfl
theorem itr_1 : ∀ j, j < 5 → (itr j).1 % 16777216 = 1 := by decide
/-- where the lower 33 bits are known, the upper 24 grow by a known number -/
theorem grows (x0 h t j : Nat) (hx : low57 h t % 8589934592 = x0) (hj : j < 5) : top24 (hs h (t + j * 4194304)) = (top24 (hs h t) + (x0 * (itr j).1 + (itr j).2) % 144115188075855872 / 8589934592) % 16777216 := by
  rw [top24_low, top24_low, far]
  have h1 := itr_1 j hj
  have hl := low57_lt h t
  generalize (itr j).1 = A at *
  generalize (itr j).2 = C at *
  generalize low57 h t = x at *
  have hd := Nat.div_add_mod x 8589934592
  rw [hx] at hd
  generalize x / 8589934592 = y at *
  have hA := Nat.div_add_mod A 16777216
  rw [h1] at hA
  generalize A / 16777216 = al at *
  subst hd
  have e : (8589934592 * y + x0) * A + C = 144115188075855872 * (al * y) + (8589934592 * y + (x0 * A + C)) := by
    rw [← hA, Nat.add_mul, Nat.mul_add, Nat.mul_one]
    have : 8589934592 * y * (16777216 * al) = 144115188075855872 * (al * y) := by
      rw [Nat.mul_assoc, Nat.mul_left_comm y, ← Nat.mul_assoc, Nat.mul_comm al y]
    rw [this]
    omega
  rw [e, Nat.mul_add_mod]
  generalize x0 * A + C = s
  have hs := Nat.div_add_mod s 144115188075855872
  have hs2 : s % 144115188075855872 < 144115188075855872 := Nat.mod_lt _ (by decide)
  generalize s / 144115188075855872 = k at *
  generalize s % 144115188075855872 = u at *
  have hu := Nat.div_add_mod u 8589934592
  have hu2 : u % 8589934592 < 8589934592 := Nat.mod_lt _ (by decide)
  generalize u / 8589934592 = c at *
  generalize u % 8589934592 = v at *
  subst hu
  subst hs
  have e2 : 8589934592 * y + (144115188075855872 * k + (8589934592 * c + v)) = 144115188075855872 * k + (8589934592 * (y + c) + v) := by omega
  rw [e2, Nat.mul_add_mod]
  generalize y + c = W
  have hW := Nat.div_add_mod W 16777216
  have hw : W % 16777216 < 16777216 := Nat.mod_lt _ (by decide)
  generalize W / 16777216 = q at *
  generalize W % 16777216 = z at *
  subst hW
  have e3 : 8589934592 * (16777216 * q + z) + v = 144115188075855872 * q + (8589934592 * z + v) := by omega
  rw [e3, Nat.mul_add_mod, Nat.mod_eq_of_lt (by omega)]
  omega
theorem two_on (h t : Nat) : low57 h (t + 2) % 8589934592 = (low57 h t % 8589934592 * 26193385 + 6521777458) % 8589934592 := by
  rw [show t + 2 = t + 1 + 1 from rfl, low57_succ, low57_succ]
  omega
/-- two numbers that differ so are not both multiples of three -/
theorem edgeM (M y a b d : Nat) (hM : M % 3 = 1) (hd : d % 3 = 2) (hd2 : d < M) (h4 : a + d = b ∨ a + d = b + M) (h1 : (y + a) % M % 3 = 0) : (y + b) % M % 3 ≠ 0 := by
  have e1 : (y + b) % M = ((y + a) % M + d) % M := by
    rw [Nat.mod_add_mod, Nat.add_assoc]
    rcases h4 with h4 | h4
    · rw [h4]
    · rw [h4, ← Nat.add_assoc, Nat.add_mod_right]
  have h2 : (y + a) % M < M := Nat.mod_lt _ (by omega)
  rw [e1]
  clear e1 h4
  generalize (y + a) % M = p at *
  rcases Nat.lt_or_ge (p + d) M with h | h
  · rw [Nat.mod_eq_of_lt h]; omega
  · obtain ⟨e, he⟩ := Nat.exists_eq_add_of_le h
    rw [he, Nat.add_mod_left, Nat.mod_eq_of_lt (show e < M by omega)]
    omega
def far3 (a b : Nat) : Bool := if a ≤ b then (b - a) % 3 == 2 else (b + 16777216 - a) % 3 == 2
theorem far3_d (a b : Nat) (ha : a < 16777216) (hb : b < 16777216) (h : far3 a b = true) : ∃ d, d % 3 = 2 ∧ d < 16777216 ∧ (a + d = b ∨ a + d = b + 16777216) := by
  unfold far3 at h
  split at h
  · rename_i hl
    obtain ⟨d, rfl⟩ := Nat.exists_eq_add_of_le hl
    have e : a + d - a = d := by omega
    rw [e] at h
    exact ⟨d, by simpa using h, by omega, .inl rfl⟩
  · rename_i hl
    obtain ⟨d, hd⟩ := Nat.exists_eq_add_of_le (show a ≤ b + 16777216 by omega)
    have e : b + 16777216 - a = d := by omega
    rw [e] at h
    exact ⟨d, by simpa using h, by omega, .inr hd.symm⟩
theorem ring5 (p q : Nat → Prop) (E F : Nat → Nat → Bool) (hp : ∀ a b, a < 5 → b < 5 → E a b = true → p a → ¬ p b) (hq : ∀ a b, a < 5 → b < 5 → F a b = true → q a → ¬ q b)
    (hg : (E 0 2 && E 2 1 && E 1 4 && E 4 3 && E 3 0 && F 0 2 && F 2 1 && F 1 4 && F 4 3 && F 3 0) = true) (h : ∀ i, i < 5 → p i ∨ q i) : False := by
  simp only [Bool.and_eq_true] at hg
  obtain ⟨⟨⟨⟨⟨⟨⟨⟨⟨g1, g2⟩, g3⟩, g4⟩, g5⟩, g6⟩, g7⟩, g8⟩, g9⟩, g10⟩ := hg
  rcases h 0 (by decide) with h0 | h0
  · have q2 := (h 2 (by decide)).resolve_left (hp 0 2 (by decide) (by decide) g1 h0)
    have p1 := (h 1 (by decide)).resolve_right (hq 2 1 (by decide) (by decide) g7 q2)
    have q4 := (h 4 (by decide)).resolve_left (hp 1 4 (by decide) (by decide) g3 p1)
    have p3 := (h 3 (by decide)).resolve_right (hq 4 3 (by decide) (by decide) g9 q4)
    exact hp 3 0 (by decide) (by decide) g5 p3 h0
  · have p2 := (h 2 (by decide)).resolve_right (hq 0 2 (by decide) (by decide) g6 h0)
    have q1 := (h 1 (by decide)).resolve_left (hp 2 1 (by decide) (by decide) g2 p2)
    have p4 := (h 4 (by decide)).resolve_right (hq 1 4 (by decide) (by decide) g8 q1)
    have q3 := (h 3 (by decide)).resolve_left (hp 4 3 (by decide) (by decide) g4 p4)
    exact hq 3 0 (by decide) (by decide) g10 q3 h0
/-- how much the upper bits have grown -/
def cst (x0 j : Nat) : Nat := (x0 * (itr j).1 + (itr j).2) % 144115188075855872 / 8589934592
theorem cst_lt (x0 j : Nat) : cst x0 j < 16777216 := by
  have : (x0 * (itr j).1 + (itr j).2) % 144115188075855872 < 144115188075855872 := Nat.mod_lt _ (by decide)
  unfold cst
  omega
def edgeOK (x0 a b : Nat) : Bool := far3 (cst x0 a) (cst x0 b)
theorem not_both (x0 h t a b : Nat) (hx : low57 h t % 8589934592 = x0) (ha : a < 5) (hb : b < 5) (he : edgeOK x0 a b = true) (h1 : top24 (hs h (t + a * 4194304)) % 3 = 0) : ¬ top24 (hs h (t + b * 4194304)) % 3 = 0 := by
  rw [grows x0 h t a hx ha] at h1
  rw [grows x0 h t b hx hb]
  obtain ⟨d, d1, d2, d3⟩ := far3_d _ _ (cst_lt _ _) (cst_lt _ _) he
  exact edgeM 16777216 _ (cst x0 a) (cst x0 b) d (by decide) d1 d2 d3 h1
theorem stuck (x0 x2 h t : Nat) (hx : low57 h t % 8589934592 = x0) (he : (x0 * 26193385 + 6521777458) % 8589934592 = x2)
    (hg : (edgeOK x0 0 2 && edgeOK x0 2 1 && edgeOK x0 1 4 && edgeOK x0 4 3 && edgeOK x0 3 0 && edgeOK x2 0 2 && edgeOK x2 2 1 && edgeOK x2 1 4 && edgeOK x2 4 3 && edgeOK x2 3 0) = true)
    (hv : ∀ i, i < 5 → top24 (hs h (t + i * 4194304)) % 3 = 0 ∨ top24 (hs h (t + 2 + i * 4194304)) % 3 = 0) : False := by
  have hx2 : low57 h (t + 2) % 8589934592 = x2 := by rw [two_on, hx, he]
  exact ring5 (fun i => top24 (hs h (t + i * 4194304)) % 3 = 0) (fun i => top24 (hs h (t + 2 + i * 4194304)) % 3 = 0) (edgeOK x0) (edgeOK x2)
    (fun a b ha hb he h1 => not_both x0 h t a b hx ha hb he h1) (fun a b ha hb he h1 => not_both x2 h (t + 2) a b hx2 ha hb he h1) hg hv
theorem ring_0 : (edgeOK 85708 0 2 && edgeOK 85708 2 1 && edgeOK 85708 1 4 && edgeOK 85708 4 3 && edgeOK 85708 3 0 && edgeOK 941555934 0 2 && edgeOK 941555934 2 1 && edgeOK 941555934 1 4 && edgeOK 941555934 4 3 && edgeOK 941555934 3 0) = true := by decide
theorem ring_1 : (edgeOK 153041 0 2 && edgeOK 153041 2 1 && edgeOK 153041 1 4 && edgeOK 153041 4 3 && edgeOK 153041 3 0 && edgeOK 3684156779 0 2 && edgeOK 3684156779 2 1 && edgeOK 3684156779 1 4 && edgeOK 3684156779 4 3 && edgeOK 3684156779 3 0) = true := by decide
/-- a loop that goes on while a number is a multiple of three, and takes two or four numbers a round, ends -/
theorem loop_ends (h t0 t : Nat) (h0 : t0 % 2 = 0) (ht : t % 2 = 0) (hv : ∀ s, s % 2 = 0 → t0 ≤ s → s + 2 < t → top24 (hs h (s + 1)) % 3 = 0 ∨ top24 (hs h (s + 3)) % 3 = 0) : t ≤ t0 + 8610000000 := by
  refine Nat.le_of_not_lt fun hlt => ?_
  have hp := parity h (t0 + 1)
  have key : ∀ x0 x2, x0 < 2 ^ 33 → x0 % 2 = low57 h (t0 + 1) % 2 → (x0 * 26193385 + 6521777458) % 8589934592 = x2 → (edgeOK x0 0 2 && edgeOK x0 2 1 && edgeOK x0 1 4 && edgeOK x0 4 3 && edgeOK x0 3 0 && edgeOK x2 0 2 && edgeOK x2 2 1 && edgeOK x2 1 4 && edgeOK x2 4 3 && edgeOK x2 3 0) = true → False := fun x0 x2 hx hpar he hg => by
    obtain ⟨n, hn, he1⟩ := met h 33 (by decide) (t0 + 1) x0 hx
    have e1 : low57 h (t0 + 1 + n) % 8589934592 = x0 := he1
    have hn2 : n < 8589934592 := hn
    have := hp n
    refine stuck x0 x2 h (t0 + 1 + n) e1 he hg fun i hi => ?_
    have := hv (t0 + n + i * 4194304) (by omega) (by omega) (by omega)
    rw [show t0 + n + i * 4194304 + 1 = t0 + 1 + n + i * 4194304 by omega, show t0 + n + i * 4194304 + 3 = t0 + 1 + n + 2 + i * 4194304 by omega] at this
    exact this
  rcases Nat.mod_two_eq_zero_or_one (low57 h (t0 + 1)) with hz | hz
  · exact key 85708 941555934 (by decide) (by rw [hz]) (by decide) ring_0
  · exact key 153041 3684156779 (by decide) (by rw [hz]) (by decide) ring_1
/-- of each second number, or the one behind, a multiple of three was met -/
def Cov (h0 m t : Nat) : Prop := t % 2 = 0 ∧ ∀ s, s % 2 = 0 → 2 * m ≤ s → s + 2 < t → top24 (hs h0 (s + 1)) % 3 = 0 ∨ top24 (hs h0 (s + 3)) % 3 = 0
theorem cov_zero (h0 m : Nat) : Cov h0 m 0 := ⟨rfl, fun s _ _ h => by omega⟩
theorem Cov.step {h0 m t : Nat} (h : Cov h0 m t) (hz : m ≤ t → top24 (hs h0 (t + 1)) % 3 = 0) : Cov h0 m (t + 2) ∧ Cov h0 m (t + 4) := by
  have key : ∀ s, s % 2 = 0 → 2 * m ≤ s → s + 2 < t + 4 → top24 (hs h0 (s + 1)) % 3 = 0 ∨ top24 (hs h0 (s + 3)) % 3 = 0 := fun s h1 h2 h3 => by
    have ht := h.1
    rcases Nat.lt_trichotomy (s + 2) t with h4 | h4 | h4
    · exact h.2 s h1 h2 h4
    · subst h4
      exact .inr (hz (by omega))
    · obtain rfl : s = t := by omega
      exact .inl (hz (by omega))
  have ht := h.1
  exact ⟨⟨by omega, fun s h1 h2 h3 => key s h1 h2 (by omega)⟩, ⟨by omega, key⟩⟩
theorem Cov.le {h0 m t : Nat} (h : Cov h0 m t) : t ≤ 2 * m + 8610000000 := loop_ends h0 (2 * m) t (by omega) h.1 h.2
end Go.Proofs.YtblpbkfenmkhbaaGreatDoor
