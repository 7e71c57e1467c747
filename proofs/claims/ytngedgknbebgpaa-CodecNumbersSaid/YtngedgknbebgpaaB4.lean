/- Decoding, in plain Lean: it is the inverse of encoding. -/
import Derived.Test.YtngedgknbebgpaaB3
import Derived.Lib.AppendStr
import Derived.Test.YtngedgknbebgpaaProg
set_option autoImplicit false
set_option linter.unusedVariables false
set_option linter.unusedSimpArgs false
namespace Go.Proofs
open Go.XL
def numP : Nat → Nat → List UInt8 → Option (Nat × List UInt8)
  | _, _, [] => none
  | i, u, c :: r => if (i = 0 ∨ c.toNat ≠ 0) ∧ (i < 9 ∨ c.toNat ≤ 1) then
      (if c.toNat < 128 then some (u + c.toNat * 2 ^ (7 * i), r) else numP (i + 1) (u + (c.toNat % 128) * 2 ^ (7 * i)) r) else none
def iterP (f : List UInt8 → Option (Val × List UInt8)) : Nat → List UInt8 → Option (List Val × List UInt8)
  | 0, r => some ([], r)
  | n + 1, r => match f r with
    | none => none
    | some (v, r2) => match iterP f n r2 with
      | none => none
      | some (l, r3) => some (v :: l, r3)
def numG (r : List UInt8) : Option (Nat × List UInt8) := numP 0 0 r
def lenG (r : List UInt8) : Option (Nat × List UInt8) := match numG r with
  | none => none
  | some (u, r2) => if u ≤ r2.length then some (u, r2) else none
def valP : Nat → List UInt8 → Option (Val × List UInt8)
  | _, [] => none
  | 0, c :: r =>
    if c.toNat = 1 then (match numG r with | none => none | some (u, r2) => some (.mk 1 (sgnV u) [] [], r2))
    else if c.toNat = 2 then (match lenG r with | none => none | some (u, r2) => some (.mk 2 0 (r2.take u) [], r2.drop u))
    else none
  | d + 1, c :: r =>
    if c.toNat = 1 then (match numG r with | none => none | some (u, r2) => some (.mk 1 (sgnV u) [] [], r2))
    else if c.toNat = 2 then (match lenG r with | none => none | some (u, r2) => some (.mk 2 0 (r2.take u) [], r2.drop u))
    else if c.toNat = 3 then (match lenG r with | none => none | some (u, r2) => match iterP (valP d) u r2 with
      | none => none
      | some (l, r3) => some (.mk 3 0 [] l, r3))
    else none
def decV (b : List UInt8) : Val × Int := match valP 16 b with
  | some (v, []) => (v, 0)
  | _ => (v0, 10)
theorem ofNat_toNat {n : Nat} (h : n < 256) : (UInt8.ofNat n).toNat = n := by
  rw [UInt8.toNat_ofNat']; omega
theorem toNat_lt (c : UInt8) : c.toNat < 256 := c.toNat_lt
theorem ofNat_eq (c : UInt8) : UInt8.ofNat c.toNat = c := by simp
/-- what a numeral is read from -/
theorem numP_of : ∀ {b : List UInt8} {i u w : Nat} {r : List UInt8}, numP i u b = some (w, r) → ∃ x, w = u + x * 2 ^ (7 * i) ∧ b = numL x ++ r ∧ (0 < i → 0 < x) ∧ (i ≤ 9 → x < 2 ^ (64 - 7 * i))
  | [], i, u, w, r, h => by cases h
  | c :: b, i, u, w, r, h => by
    rw [numP] at h
    split at h
    · rename_i hc
      split at h
      · rename_i hlt
        cases h
        refine ⟨c.toNat, rfl, ?_, ?_, ?_⟩
        · rw [numL, dif_pos hlt, ofNat_eq]; rfl
        · intro hi; rcases hc.1 with h | h <;> omega
        · intro hi
          rcases Nat.lt_or_ge i 9 with h9 | h9
          · have : 2 ^ 7 ≤ 2 ^ (64 - 7 * i) := Nat.pow_le_pow_right (by decide) (by omega)
            omega
          · obtain rfl : i = 9 := by omega
            have : c.toNat ≤ 1 := hc.2.resolve_left (by omega)
            show c.toNat < 2 ^ 1
            omega
      · rename_i hge
        obtain ⟨x, h1, h2, h3, h4⟩ := numP_of h
        have hx := h3 (by omega)
        have hc2 := toNat_lt c
        refine ⟨c.toNat % 128 + 128 * x, ?_, ?_, fun _ => by omega, fun hi => ?_⟩
        · rw [h1, show 7 * (i + 1) = 7 * i + 7 by omega, Nat.pow_add, Nat.add_mul, Nat.add_assoc]
          congr 2
          rw [show 2 ^ 7 = 128 from rfl, ← Nat.mul_assoc, Nat.mul_comm 128 x, Nat.mul_assoc, Nat.mul_assoc, Nat.mul_comm (2 ^ (7 * i)) 128]
        · rw [numL, dif_neg (by omega), h2]
          rw [show (c.toNat % 128 + 128 * x) % 128 + 128 = c.toNat by omega, show (c.toNat % 128 + 128 * x) / 128 = x by omega, ofNat_eq]
          rfl
        · rcases Nat.lt_or_ge i 9 with h9 | h9
          · have h5 := h4 (by omega)
            have : 2 ^ (64 - 7 * i) = 2 ^ (64 - 7 * (i + 1)) * 2 ^ 7 := by rw [← Nat.pow_add]; congr 1; omega
            omega
          · have : c.toNat ≤ 1 := hc.2.resolve_left (by omega)
            omega
    · cases h
theorem numP_to : ∀ (x i u : Nat) (r : List UInt8), x < 2 ^ (64 - 7 * i) → i ≤ 9 → (0 < i → 0 < x) → numP i u (numL x ++ r) = some (u + x * 2 ^ (7 * i), r) := by
  intro x
  refine Nat.strongRecOn x ?_
  intro x ih i u r hx hi h0
  rw [numL]
  by_cases h : x < 128
  · rw [dif_pos h]
    show numP i u (UInt8.ofNat x :: r) = _
    rw [numP, ofNat_toNat (by omega), if_pos, if_pos h]
    refine ⟨?_, ?_⟩
    · rcases Nat.eq_zero_or_pos i with hz | hz
      · exact Or.inl hz
      · exact Or.inr (by have := h0 hz; omega)
    · rcases Nat.lt_or_ge i 9 with h9 | h9
      · exact Or.inl h9
      · obtain rfl : i = 9 := by omega
        exact Or.inr (by have : x < 2 ^ 1 := hx; omega)
  · rw [dif_neg h]
    show numP i u (UInt8.ofNat (x % 128 + 128) :: (numL (x / 128) ++ r)) = _
    have h9 : i < 9 := by
      rcases Nat.lt_or_ge i 9 with h9 | h9
      · exact h9
      · obtain rfl : i = 9 := by omega
        have : x < 2 ^ 1 := hx
        omega
    rw [numP, ofNat_toNat (by omega), if_pos ⟨Or.inr (by omega), Or.inl h9⟩, if_neg (by omega), show (x % 128 + 128) % 128 = x % 128 by omega]
    have hp : 2 ^ (64 - 7 * i) = 2 ^ (64 - 7 * (i + 1)) * 2 ^ 7 := by rw [← Nat.pow_add]; congr 1; omega
    rw [ih (x / 128) (by omega) (i + 1) _ r (by omega) (by omega) (fun _ => by omega)]
    congr 2
    rw [show 7 * (i + 1) = 7 * i + 7 by omega, Nat.pow_add, Nat.add_assoc]
    congr 1
    rw [show 2 ^ 7 = 128 from rfl, ← Nat.mul_assoc, Nat.mul_right_comm, ← Nat.add_mul]
    congr 1
    omega
theorem numG_of {b : List UInt8} {w : Nat} {r : List UInt8} (h : numG b = some (w, r)) : b = numL w ++ r ∧ w < 2 ^ 64 := by
  obtain ⟨x, h1, h2, _, h4⟩ := numP_of h
  obtain rfl : w = x := by simpa using h1
  exact ⟨h2, h4 (by omega)⟩
theorem numG_to {x : Nat} (r : List UInt8) (hx : x < 2 ^ 64) : numG (numL x ++ r) = some (x, r) := by
  have := numP_to x 0 0 r hx (by omega) (fun h => by omega)
  simpa [numG] using this
theorem iterP_of {f : List UInt8 → Option (Val × List UInt8)} {q : Val → Prop} (hf : ∀ b v r, f b = some (v, r) → b = encV v ++ r ∧ q v) : ∀ {n : Nat} {b r : List UInt8} {l : List Val}, iterP f n b = some (l, r) → b = encL l ++ r ∧ l.length = n ∧ ∀ v ∈ l, q v
  | 0, b, r, l, h => by cases h; simp [encL]
  | n + 1, b, r, l, h => by
    rw [iterP] at h
    split at h
    · cases h
    · rename_i v r2 hv
      split at h
      · cases h
      · rename_i l2 r3 hl
        cases h
        obtain ⟨h1, h2⟩ := hf _ _ _ hv
        obtain ⟨h3, h4, h5⟩ := iterP_of hf hl
        refine ⟨by rw [h1, h3, encL, List.append_assoc], by simp [h4], ?_⟩
        intro x hx
        rcases List.mem_cons.1 hx with rfl | hx
        · exact h2
        · exact h5 x hx
theorem lenG_of {b : List UInt8} {w : Nat} {r : List UInt8} (h : lenG b = some (w, r)) : b = numL w ++ r ∧ w ≤ r.length := by
  unfold lenG at h
  split at h
  · cases h
  · rename_i u r2 hn
    split at h
    · cases h; exact ⟨(numG_of hn).1, by assumption⟩
    · cases h
theorem depthL_le {l : List Val} {d : Nat} : depthL l ≤ d ↔ ∀ v ∈ l, depthV v ≤ d := by
  induction l with
  | nil => simp [depthL]
  | cons x r ih => simp only [depthL, List.mem_cons, forall_eq_or_imp, ← ih]; omega
theorem valP_of : ∀ {d : Nat} {b : List UInt8} {v : Val} {r : List UInt8}, valP d b = some (v, r) → b = encV v ++ r ∧ (formedB v = true ∧ depthV v ≤ d) := by
  have common : ∀ {d : Nat} {c : UInt8} {b : List UInt8} {v : Val} {r : List UInt8}, c.toNat = 1 → (match numG b with | none => none | some (u, r2) => some (Val.mk 1 (sgnV u) [] [], r2)) = some (v, r) → c :: b = encV v ++ r ∧ (formedB v = true ∧ depthV v ≤ d) := by
    intro d c b v r hc h
    split at h
    · cases h
    · rename_i u r2 hn
      cases h
      have e : c = 1 := by have := ofNat_eq c; rw [hc] at this; exact this.symm
      rw [encV, if_pos rfl, uns_sgn, e, (numG_of hn).1]
      exact ⟨rfl, by simp [formedB], by simp [depthV]⟩
  have common2 : ∀ {d : Nat} {c : UInt8} {b : List UInt8} {v : Val} {r : List UInt8}, c.toNat = 2 → (match lenG b with | none => none | some (u, r2) => some (Val.mk 2 0 (r2.take u) [], r2.drop u)) = some (v, r) → c :: b = encV v ++ r ∧ (formedB v = true ∧ depthV v ≤ d) := by
    intro d c b v r hc h
    split at h
    · cases h
    · rename_i u r2 hn
      cases h
      have e : c = 2 := by have := ofNat_eq c; rw [hc] at this; exact this.symm
      obtain ⟨h1, h2⟩ := lenG_of hn
      rw [encV, if_neg (by decide), if_pos rfl, e, h1, List.length_take, Nat.min_eq_left h2]
      refine ⟨?_, by simp [formedB], by simp [depthV]⟩
      simp [List.append_assoc]
  intro d
  induction d with
  | zero =>
    intro b v r h
    cases b with
    | nil => rw [valP] at h; cases h
    | cons c b =>
      rw [valP] at h
      split at h
      · exact common (by assumption) h
      · split at h
        · exact common2 (by assumption) h
        · cases h
  | succ d ih =>
    intro b v r h
    cases b with
    | nil => rw [valP] at h; cases h
    | cons c b =>
      rw [valP] at h
      split at h
      · exact common (by assumption) h
      · split at h
        · exact common2 (by assumption) h
        · split at h
          · rename_i hc
            split at h
            · cases h
            · rename_i u r2 hn
              split at h
              · cases h
              · rename_i l r3 hl
                cases h
                have e : c = 3 := by have := ofNat_eq c; rw [hc] at this; exact this.symm
                obtain ⟨h1, h2⟩ := lenG_of hn
                obtain ⟨h3, h4, h5⟩ := iterP_of (q := fun v => formedB v = true ∧ depthV v ≤ d) (fun b v r h => ih h) hl
                rw [encV, if_neg (by decide), if_neg (by decide), e, h1, h3, h4]
                refine ⟨by simp [List.append_assoc], ?_, ?_⟩
                · simp only [formedB]
                  rw [formedL_iff.2 fun x hx => (h5 x hx).1]; rfl
                · rw [depthV, if_pos rfl]
                  have := depthL_le.2 fun x hx => (h5 x hx).2
                  omega
          · cases h
theorem numL_pos (u : Nat) : 0 < (numL u).length := by rw [numL]; split <;> simp
theorem encV_pos (v : Val) : 0 < (encV v).length := by
  cases v; rw [encV]; split
  · simp
  · split <;> simp
theorem encL_len {l : List Val} : l.length ≤ (encL l).length := by
  induction l with
  | nil => simp
  | cons x r ih => have := encV_pos x; simp only [encL, List.length_append, List.length_cons]; omega
theorem lenG_to {u : Nat} {r : List UInt8} (hu : u < 2 ^ 64) (h : u ≤ r.length) : lenG (numL u ++ r) = some (u, r) := by
  rw [lenG, numG_to r hu]; simp only; rw [if_pos h]
theorem uns_lt {n : Int} (h : -9223372036854775808 ≤ n ∧ n ≤ 9223372036854775807) : unsV n < 2 ^ 64 := by
  unfold unsV; split <;> omega
theorem iterP_to {f : List UInt8 → Option (Val × List UInt8)} : ∀ {l : List Val} (r : List UInt8), (∀ x ∈ l, ∀ r, f (encV x ++ r) = some (x, r)) → iterP f l.length (encL l ++ r) = some (l, r)
  | [], r, _ => rfl
  | x :: l, r, h => by
    rw [List.length_cons, iterP, encL, List.append_assoc, h x (by simp)]
    simp only
    rw [iterP_to r fun y hy => h y (by simp [hy])]
theorem valP_to : ∀ (d : Nat) (v : Val) (r : List UInt8), formedB v = true → depthV v ≤ d → Fit v → valP d (encV v ++ r) = some (v, r) := by
  intro d
  induction d with
  | zero =>
    rintro ⟨k, n, s, l⟩ r hf hd hfit
    cases hfit with
    | mk _ _ _ _ hn hs hl hx =>
      rw [formedB] at hf
      simp only [Bool.or_eq_true, Bool.and_eq_true, beq_iff_eq, List.isEmpty_iff] at hf
      rcases hf with (⟨⟨rfl, rfl⟩, rfl⟩ | ⟨⟨rfl, rfl⟩, rfl⟩) | ⟨⟨⟨rfl, rfl⟩, rfl⟩, hf⟩
      · rw [encV, if_pos rfl, List.cons_append, valP, if_pos (by decide), numG_to r (uns_lt hn)]
        simp only [sgn_uns]
      · rw [encV, if_neg (by decide), if_pos rfl, List.cons_append, List.append_assoc, valP, if_neg (by decide), if_pos (by decide), lenG_to (by omega) (by simp)]
        simp
      · rw [depthV, if_pos rfl] at hd; omega
  | succ d ih =>
    rintro ⟨k, n, s, l⟩ r hf hd hfit
    cases hfit with
    | mk _ _ _ _ hn hs hl hx =>
      rw [formedB] at hf
      simp only [Bool.or_eq_true, Bool.and_eq_true, beq_iff_eq, List.isEmpty_iff] at hf
      rcases hf with (⟨⟨rfl, rfl⟩, rfl⟩ | ⟨⟨rfl, rfl⟩, rfl⟩) | ⟨⟨⟨rfl, rfl⟩, rfl⟩, hf⟩
      · rw [encV, if_pos rfl, List.cons_append, valP, if_pos (by decide), numG_to r (uns_lt hn)]
        simp only [sgn_uns]
      · rw [encV, if_neg (by decide), if_pos rfl, List.cons_append, List.append_assoc, valP, if_neg (by decide), if_pos (by decide), lenG_to (by omega) (by simp)]
        simp
      · rw [depthV, if_pos rfl] at hd
        have hdl := depthL_le.1 (show depthL l ≤ d by omega)
        have hfl := formedL_iff.1 hf
        have hle := encL_len (l := l)
        rw [encV, if_neg (by decide), if_neg (by decide), List.cons_append, List.append_assoc, valP, if_neg (by decide), if_neg (by decide), if_pos (by decide), lenG_to (by omega) (by rw [List.length_append]; omega)]
        simp only
        rw [iterP_to r fun x hxl r => ih x r (hfl x hxl) (hdl x hxl) (hx x hxl)]
theorem dec_enc {v : Val} (hc : chkV v = 0) (hf : Fit v) : decV (encV v) = (v, 0) := by
  unfold chkV at hc
  split at hc
  · rename_i h1
    split at hc
    · cases hc
    · have := valP_to 16 v [] h1 (by omega) hf
      rw [List.append_nil] at this
      rw [decV, this]
  · cases hc
theorem dec_ok {b : List UInt8} {v : Val} (h : decV b = (v, 0)) : b = encV v ∧ chkV v = 0 := by
  unfold decV at h
  split at h
  · rename_i v' hv
    cases h
    obtain ⟨h1, h2, h3⟩ := valP_of hv
    refine ⟨by simpa using h1, ?_⟩
    rw [chkV, if_pos h2, if_neg (by omega)]
  · cases h
theorem dec_cases (b : List UInt8) : ((decV b).2 = 0 ∧ b = encV (decV b).1 ∧ chkV (decV b).1 = 0) ∨ decV b = (v0, 10) := by
  by_cases h : (decV b).2 = 0
  · have e : decV b = ((decV b).1, 0) := Prod.ext rfl h
    have := dec_ok e
    exact Or.inl ⟨h, this.1, this.2⟩
  · right
    unfold decV at h ⊢
    split
    · rename_i v' hv; rw [hv] at h; exact absurd rfl h
    · rfl
end Go.Proofs

/- Drawn regions in which one block is changed by several operations, one after the other. No statement of the program stands here. -/
set_option autoImplicit false
set_option linter.unusedSimpArgs false
set_option linter.unusedVariables false
namespace Go.XL
/-- the operations that change the block, each of them bound to run behind the one before it -/
def chainB (l : List Oper) (m : Nat) : List Nat → Bool
  | [] => true
  | [a] => Nat.blt a m
  | a :: b :: r => Nat.blt a m && befI l b a && chainB l m (b :: r)
def rankQ : List Nat → Nat → Option Nat
  | [], _ => none
  | a :: r, k => bif Nat.beq a k then some 0 else match rankQ r k with | some j => some (j + 1) | none => none
theorem rankQ_some : ∀ {mods : List Nat} {k j : Nat}, rankQ mods k = some j → mods[j]? = some k ∧ j < mods.length
  | [], k, j, h => by cases h
  | a :: r, k, j, h => by
    rw [rankQ] at h
    cases hb : Nat.beq a k with
    | true => rw [hb] at h; cases h; exact ⟨by rw [Nat.eq_of_beq_eq_true hb]; rfl, by simp⟩
    | false =>
      rw [hb] at h
      simp only [cond_false] at h
      split at h
      · rename_i j' hj; cases h
        have := rankQ_some hj
        exact ⟨by simpa using this.1, by simpa using this.2⟩
      · cases h
theorem rankQ_none : ∀ {mods : List Nat} {k : Nat}, rankQ mods k = none → ∀ q, q < mods.length → mods.getD q 0 ≠ k
  | [], k, h, q, hq, _ => by simp at hq
  | a :: r, k, h, q, hq, e => by
    rw [rankQ] at h
    cases hb : Nat.beq a k with
    | true => rw [hb] at h; cases h
    | false =>
      rw [hb] at h
      simp only [cond_false] at h
      split at h
      · cases h
      · rename_i hn
        cases q with
        | zero => simp at e; subst e; simp at hb
        | succ q => exact rankQ_none hn q (by simpa using hq) (by simpa using e)
def lastV (mods : List Nat) (val : Nat → Value) : Nat → Value
  | 0 => undef
  | j + 1 => val (mods.getD j 0)
def entJ (mods : List Nat) (L : Nat → Bool) (j : Nat) : Prop := (∀ q, q < j → L (mods.getD q 0) = true) ∧ (∀ q, j ≤ q → q < mods.length → L (mods.getD q 0) = false)
def entQ (mods : List Nat) (FO : Nat → Value → Nat × SObj → Hp → Prop) (L : Nat → Bool) (val : Nat → Value) (e : Nat × SObj) (H : Hp) : Prop :=
  ∃ j, j ≤ mods.length ∧ (∀ q, q < j → L (mods.getD q 0) = true) ∧ (∀ q, j ≤ q → q < mods.length → L (mods.getD q 0) = false) ∧ FO j (lastV mods val j) e H
theorem entQ_at {mods : List Nat} {FO : Nat → Value → Nat × SObj → Hp → Prop} {L : Nat → Bool} {val : Nat → Value} {e : Nat × SObj} {H : Hp} (h : entQ mods FO L val e H) {r : Nat} (hr : r < mods.length) (hA : ∀ q, q < r → L (mods.getD q 0) = true) (hB : ∀ q, r ≤ q → q < mods.length → L (mods.getD q 0) = false) : FO r (lastV mods val r) e H := by
  obtain ⟨j, hj, h1, h2, h3⟩ := h
  have : j = r := by
    rcases Nat.lt_trichotomy j r with hl | hl | hl
    · have a := hA j hl; rw [h2 j (Nat.le_refl _) (by omega)] at a; cases a
    · exact hl
    · have a := h1 r hl; rw [hB r (Nat.le_refl _) hr] at a; cases a
  subst this; exact h3
def factQ (l : List Oper) (mods : List Nat) (FO : Nat → Value → Nat × SObj → Hp → Prop) (k : Nat) (acc : Env) (e : Nat × SObj) (H : Hp) : Prop :=
  match rankQ mods k with
  | none => True
  | some 0 => FO 0 undef e H
  | some (j + 1) => ∀ t v, dstOf l (mods.getD j 0) = some t → Env.get acc t = some v → FO (j + 1) v e H
def foQ (mods : List Nat) (k : Nat) (FO : Nat → Value → Nat × SObj → Hp → Prop) (e0 : Nat × SObj) : Value → Nat × SObj → Hp → Prop := fun v e H =>
  match rankQ mods k with
  | none => e = e0
  | some j => FO (j + 1) v e H
def lastQ (l : List Oper) (mods : List Nat) (FO : Nat → Value → Nat × SObj → Hp → Prop) (acc : Env) (e : Nat × SObj) (H : Hp) : Prop :=
  match mods.length with
  | 0 => FO 0 undef e H
  | n + 1 => ∀ t v, dstOf l (mods.getD n 0) = some t → Env.get acc t = some v → FO (n + 1) v e H
theorem chainB_lt {l : List Oper} {m : Nat} : ∀ {mods : List Nat}, chainB l m mods = true → ∀ {q : Nat}, q < mods.length → mods.getD q 0 < m
  | [], _, q, hq => by simp at hq
  | [a], h, q, hq => by
    obtain rfl : q = 0 := by simpa using hq
    simpa [chainB] using h
  | a :: b :: r, h, q, hq => by
    simp only [chainB, Bool.and_eq_true] at h
    cases q with
    | zero => simpa using h.1.1
    | succ q => exact chainB_lt h.2 (q := q) (by simpa using hq)
theorem chainB_bef {l : List Oper} {m : Nat} : ∀ {mods : List Nat}, chainB l m mods = true → ∀ q, q + 1 < mods.length → befI l (mods.getD (q + 1) 0) (mods.getD q 0) = true
  | [], _, q, hq => by simp at hq
  | [a], _, q, hq => by simp at hq
  | a :: b :: r, h, q, hq => by
    simp only [chainB, Bool.and_eq_true] at h
    cases q with
    | zero => simpa using h.1.2
    | succ q => exact chainB_bef h.2 q (by simpa using hq)
theorem chainB_mono {l : List Oper} {m : Nat} {mods : List Nat} (h : chainB l m mods = true) (hdc : ∀ (i : Nat) (o : Oper), l[i]? = some o → ∀ e ∈ o.after, Region.binds .any e = true → e.on < i) : ∀ {r q : Nat}, r < q → q < mods.length → mods.getD r 0 < mods.getD q 0 := by
  have one : ∀ q, q + 1 < mods.length → mods.getD q 0 < mods.getD (q + 1) 0 := by
    intro q hq
    have hb := chainB_bef h q hq
    unfold befI at hb
    split at hb
    · rename_i o ho
      simp only [List.any_eq_true, Bool.and_eq_true] at hb
      obtain ⟨ed, hed, h4, h5⟩ := hb
      have := hdc _ o ho ed (by simpa using hed) h4
      rwa [Nat.eq_of_beq_eq_true h5] at this
    · cases hb
  intro r q hrq hq
  induction q with
  | zero => omega
  | succ q ih =>
    have h1 := one q hq
    by_cases he : r = q
    · subst he; exact h1
    · have := ih (by omega) (by omega); omega
def stepsQ (Gd : Hp → Prop) (mods : List Nat) (FO : Nat → Value → Nat × SObj → Hp → Prop) (C : Ctx) (l : List Oper) (F : List (Value → Hp → Prop)) (env : Env) (df : List Deferred) (H : Hp) (own : Own) (m : Nat) : Nat → List Oper → Prop
  | _, [] => True
  | k, o :: rest => bif Nat.blt k m then
      (∀ X e H', Le H H' → Gd H' → withP l F H' (predsG o) [] fun acc => factQ l mods FO k acc e H' → XO C l.toArray (stepQV Gd o.dst (factAt F k) (foQ mods k FO e) (acc ++ (env ++ X)) df own) [o] ⟨acc ++ (env ++ X), df, H', e :: own⟩) ∧ stepsQ Gd mods FO C l F env df H own m (k + 1) rest
    else True
theorem stepsQ_cons {Gd : Hp → Prop} {mods : List Nat} {FO : Nat → Value → Nat × SObj → Hp → Prop} {C : Ctx} {l : List Oper} {F : List (Value → Hp → Prop)} {env : Env} {df : List Deferred} {H : Hp} {own : Own} {m k : Nat} {o : Oper} {rest : List Oper} (hk : Nat.blt k m = true)
    (h : ∀ X e H', Le H H' → Gd H' → withP l F H' (predsG o) [] fun acc => factQ l mods FO k acc e H' → XO C l.toArray (stepQV Gd o.dst (factAt F k) (foQ mods k FO e) (acc ++ (env ++ X)) df own) [o] ⟨acc ++ (env ++ X), df, H', e :: own⟩) (k2 : stepsQ Gd mods FO C l F env df H own m (k + 1) rest) : stepsQ Gd mods FO C l F env df H own m k (o :: rest) := by
  rw [stepsQ, hk]; exact ⟨h, k2⟩
theorem stepsQ_end {Gd : Hp → Prop} {mods : List Nat} {FO : Nat → Value → Nat × SObj → Hp → Prop} {C : Ctx} {l : List Oper} {F : List (Value → Hp → Prop)} {env : Env} {df : List Deferred} {H : Hp} {own : Own} {m k : Nat} {rest : List Oper} (hk : Nat.blt k m = false) : stepsQ Gd mods FO C l F env df H own m k rest := by
  cases rest with
  | nil => trivial
  | cons o r => rw [stepsQ, hk]; trivial
section
variable {C : Ctx} {Q : Exit → St → Prop} {env : Env} {df : List Deferred} {H : Hp} {own : Own}
theorem stepsQ_at {Gd : Hp → Prop} {mods : List Nat} {FO : Nat → Value → Nat × SObj → Hp → Prop} {l : List Oper} {F : List (Value → Hp → Prop)} {m : Nat} : ∀ (rest : List Oper) (k : Nat), stepsQ Gd mods FO C l F env df H own m k rest → ∀ (i : Nat) (o : Oper), rest[i]? = some o → k + i < m →
    ∀ X e H', Le H H' → Gd H' → withP l F H' (predsG o) [] fun acc => factQ l mods FO (k + i) acc e H' → XO C l.toArray (stepQV Gd o.dst (factAt F (k + i)) (foQ mods (k + i) FO e) (acc ++ (env ++ X)) df own) [o] ⟨acc ++ (env ++ X), df, H', e :: own⟩
  | [], k, _, i, o, hi, _ => by simp at hi
  | x :: rest, k, h, i, o, hi, hlt => by
    simp only [stepsQ] at h
    rw [show Nat.blt k m = true by simp; omega] at h
    cases i with
    | zero => simp only [List.getElem?_cons_zero, Option.some.injEq] at hi; subst hi; exact h.1
    | succ i =>
      have := stepsQ_at rest (k + 1) h.2 i o (by simpa using hi) (by omega)
      rwa [show k + 1 + i = k + (i + 1) by omega] at this
theorem XC.drawQ (Gd : Hp → Prop) (hG : Gd H) (mods : List Nat) (FO : Nat → Value → Nat × SObj → Hp → Prop) (hFO : ∀ j v p H H', Le H H' → FO j v p H → FO j v p H') {id : Nat} {l : List Oper} (m : Nat) (F : List (Value → Hp → Prop)) (hm : C.P.follows .mixedOrders = true) (hck : drawOkH m l (env.map Prod.fst) = true) (hmono' : monoL F)
    (hch : chainB l m mods = true) {q : Nat × SObj} (hq0 : FO 0 undef q H) (steps : stepsQ Gd mods FO C l F env df H own m 0 l)
    (tail : ∀ H', Le H H' → Gd H' → withP l F H' (List.range m) [] fun acc => ∀ e, lastQ l mods FO acc e H' → XO C l.toArray Q (l.drop m) ⟨acc ++ env, df, H', e :: own⟩) : XC C (.region id l.toArray true) Q ⟨env, df, H, q :: own⟩ := by
  have hmono := monoF_of hmono'
  intro a₀ w₀ hr₀
  refine wpIn_region_any hm ?_
  simp only [drawOkH, Bool.and_eq_true, List.all_eq_true, List.mem_range] at hck
  obtain ⟨⟨hml, hck1⟩, hck2⟩ := hck
  have hml := Nat.le_of_ble_eq_true hml
  have hpre : ∀ i, i < m → ∃ o, l[i]? = some o ∧ (∀ t, o.dst = some t → t ∉ env.map Prod.fst ∧ (∀ j, j < m → i ≠ j → dstOf l j ≠ some t)) ∧ (∀ e ∈ o.after, Region.binds .any e = true → e.on < i) ∧ (∀ j ∈ predsG o, j < m ∧ ∃ e ∈ o.after, Region.binds .any e = true ∧ e.on = j) := by
    intro i hi
    have h := hck1 i hi
    split at h
    · rename_i o ho
      simp only [Bool.and_eq_true, List.all_eq_true] at h
      obtain ⟨⟨⟨hnd, hd⟩, haf⟩, hp⟩ := h
      refine ⟨o, ho, ?_, ?_, ?_⟩
      · intro t ht
        rw [ht] at hd
        simp only [Bool.and_eq_true, List.all_eq_true, List.mem_range, Bool.not_eq_true', List.contains_eq_mem, decide_eq_false_iff_not] at hd
        refine ⟨hd.1, fun j hj hne he => ?_⟩
        have := hd.2 j hj
        rw [he] at this
        simp at this
        exact hne this
      · intro e he hb
        have := haf e (by simpa using he)
        simpa [hb] using this
      · intro j hj
        have := hp j hj
        simp only [List.any_eq_true, Bool.and_eq_true] at this
        obtain ⟨h1, e, he, hb, hon⟩ := this
        exact ⟨by simpa using h1, e, by simpa using he, hb, Nat.eq_of_beq_eq_true hon⟩
    · cases h
  have hkey : ∀ i t, i < m → dstOf l i = some t → t ∉ env.map Prod.fst := by
    intro i t hi ht
    obtain ⟨o, ho, hd, _⟩ := hpre i hi
    exact (hd t (by simpa [dstOf, ho] using ht)).1
  have hdis : ∀ i j t, i < m → j < m → dstOf l i = some t → dstOf l j = some t → i = j := by
    intro i j t hi hj ht ht2
    obtain ⟨o, ho, hd, _⟩ := hpre i hi
    by_cases h : i = j
    · exact h
    · exact absurd ht2 ((hd t (by simpa [dstOf, ho] using ht)).2 j hj h)
  have htl : ∀ (i : Nat) (o : Oper), m ≤ i → l[i]? = some o → (∀ j, j < i → waitsB l l.length o j = true) ∧ (∀ e ∈ o.after, Region.binds .any e = true → e.on < i) := by
    intro i o hi ho
    have hlt := (List.getElem?_eq_some_iff.1 ho).1
    have h := hck2 i hlt
    rw [ho] at h
    rw [show Nat.blt i m = false from blt_ge hi] at h
    simp only [Bool.false_or, Bool.and_eq_true, List.all_eq_true, List.mem_range] at h
    refine ⟨fun j hj => h.1 j hj, fun e he hb => ?_⟩
    · have := h.2 e (by simpa using he)
      simpa [hb] using this
  have hdc : ∀ (i : Nat) (o : Oper), l[i]? = some o → ∀ e ∈ o.after, Region.binds .any e = true → e.on < i := by
    intro i o ho
    rcases Nat.lt_or_ge i m with h | h
    · obtain ⟨o2, ho2, _, haf, _⟩ := hpre i h
      rw [ho] at ho2; cases ho2; exact haf
    · exact (htl i o h ho).2
  have main : ∀ (fuel : Nat) (L : Array Bool) (a : Act) (w : World) (val : Nat → Value) (ent : Nat × SObj) (H' : Hp), L.size = l.length → unl l.length L ≤ fuel → Le H H' → Gd H' → (∀ (i : Nat) (o : Oper), l[i]? = some o → lst L i = true → ∀ e ∈ o.after, Region.binds .any e = true → lst L e.on = true) → (∀ j, m ≤ j → lst L j = false) →
      a.tmps.size = C.N → (∀ t v, env.get t = some v → a.tmps.getD t undef = v) → (∃ ms : List Nat, a.defers = ms.map mark ++ df ∧ Ok C.G H' ((ent :: own) ++ (ms.map hid ++ C.hid)) w) → entQ mods FO (lst L) val ent H' →
      (∀ i, i < m → lst L i = true → ∀ t, dstOf l i = some t → a.tmps.getD t undef = val i ∧ factAt F i (val i) H') →
      wpAnyIn (Fr C.r) 0 C.P .any l.toArray (lift C H Q) fuel L a w := by
    intro fuel
    have done : ∀ (fuel : Nat) (L : Array Bool) (a : Act) (w : World) (val : Nat → Value) (ent : Nat × SObj) (H' : Hp), L.size = l.length → unl l.length L ≤ fuel → Le H H' → Gd H' → (∀ j, m ≤ j → lst L j = false) →
        a.tmps.size = C.N → (∀ t v, env.get t = some v → a.tmps.getD t undef = v) → (∃ ms : List Nat, a.defers = ms.map mark ++ df ∧ Ok C.G H' ((ent :: own) ++ (ms.map hid ++ C.hid)) w) → entQ mods FO (lst L) val ent H' →
        (∀ i, i < m → lst L i = true → ∀ t, dstOf l i = some t → a.tmps.getD t undef = val i ∧ factAt F i (val i) H') → (∀ j, j < m → lst L j = true) →
        wpAnyIn (Fr C.r) 0 C.P .any l.toArray (lift C H Q) fuel L a w := by
      intro fuel L a w val ent H' hs hu hle hGd hT hsz henv hok hents hfacts hall
      obtain ⟨acc', hk, hmem⟩ := withP_of (val := val) (List.range m) [] _ (tail H' hle hGd) (fun j hj t ht => (hfacts j (List.mem_range.1 hj) (hall j (List.mem_range.1 hj)) t ht).2)
      have hcount : l.length - m ≤ fuel := by rw [count_tail hml hall hT]; exact hu
      refine drawTail (m := m) htl hdc fuel m L a w (Nat.le_refl _) hs hcount hml ?_ ?_
      · intro j
        rcases Nat.lt_or_ge j m with h | h
        · rw [hall j h]; simp [h]
        · rw [hT j h]; simp; omega
      · have hk2 := hk ent (by
          obtain ⟨j, hj, h1, h2, h3⟩ := hents
          have hjl : j = mods.length := by
            rcases Nat.lt_or_ge j mods.length with h | h
            · have := h2 j (Nat.le_refl _) h
              rw [hall _ (chainB_lt hch h)] at this; cases this
            · omega
          subst hjl
          unfold lastQ
          cases hm : mods.length with
          | zero => rw [hm] at h3; simpa [lastV] using h3
          | succ n =>
            intro t v hdt hg
            rw [hm] at h3
            obtain ⟨j', hj', hdj, rfl⟩ := hmem t v (env_get_mem (by simpa using hg))
            obtain rfl := hdis _ j' t (chainB_lt hch (by omega)) (List.mem_range.1 hj') hdt hdj
            simpa [lastV] using h3)
        refine wpList_mono hle _ _ _ (hk2 a w ⟨hsz, ?_, hok⟩)
        intro t v hg
        simp only [List.append_nil] at hg
        rw [Env.get_append] at hg
        cases hga : Env.get acc' t with
        | none => rw [hga] at hg; exact henv t v (by simpa using hg)
        | some u =>
          rw [hga] at hg; simp at hg; subst hg
          obtain ⟨j, hj, hd, rfl⟩ := hmem t u (get_mem _ _ _ hga)
          have hj := List.mem_range.1 hj
          exact (hfacts j hj (hall j hj) t hd).1
    induction fuel with
    | zero =>
      intro L a w val ent H' hs hu hle hGd hdown hT hsz henv hok hents hfacts
      refine done 0 L a w val ent H' hs hu hle hGd hT hsz henv hok hents hfacts ?_
      intro j hj
      cases hx : lst L j with
      | true => rfl
      | false =>
        have := unl_set (L := L) (i := j) hs (by omega) hx
        omega
    | succ fuel ih =>
      intro L a w val ent H' hs hu hle hGd hdown hT hsz henv hok hents hfacts
      by_cases hall : ∀ j, j < m → lst L j = true
      · exact done (fuel + 1) L a w val ent H' hs hu hle hGd hT hsz henv hok hents hfacts hall
      · constructor
        · intro hnil
          exfalso
          apply hall
          -- the least one that is not listed is ready
          intro j hj
          induction j using Nat.strongRecOn with
          | _ j ihj =>
            cases hx : lst L j with
            | true => rfl
            | false =>
              exfalso
              obtain ⟨o, ho, _, haf, _⟩ := hpre j hj
              have : j ∈ Region.ready .any l.toArray L := by
                rw [mem_ready]
                refine ⟨?_, o, by simpa using ho, fun e he hb => ihj e.on (haf e he hb) (by have := haf e he hb; omega)⟩
                unfold lst at hx
                rw [Array.getD_eq_getD_getElem?, Array.getElem?_eq_getElem (by omega)] at hx ⊢
                simpa using hx
              rw [hnil] at this; cases this
        · intro i hi
          rw [mem_ready] at hi
          obtain ⟨h0, o, ho, hbef⟩ := hi
          have hilt : i < l.length := by simpa using (Array.getElem?_eq_some_iff.1 ho).1
          have hun : lst L i = false := by
            unfold lst
            rw [Array.getD_eq_getD_getElem?, Array.getElem?_eq_getElem (by omega)] at h0 ⊢
            simpa using h0
          have ho' : l[i]? = some o := by simpa using ho
          have him : i < m := by
            rcases Nat.lt_or_ge i m with h | h
            · exact h
            · exfalso
              apply hall
              intro j hj
              exact waits_listed hdown _ o j hbef ((htl i o h ho').1 j (by omega))
          obtain ⟨o2, ho2, hd, haf, hprd⟩ := hpre i him
          rw [ho'] at ho2; cases ho2
          have hdo : dstOf l i = o.dst := by simp [dstOf, ho']
          have hst := stepsQ_at l 0 steps i o ho' (by omega)
          simp only [Nat.zero_add] at hst
          -- all that is known of the slots, as one list
          let X : Env := (List.range m).filterMap fun j => if lst L j then (dstOf l j).map fun t => (t, val j) else none
          have hpredF : ∀ j ∈ predsG o, ∀ tj, dstOf l j = some tj → factAt F j (val j) H' := fun j hj tj hdj => by
            obtain ⟨hjm, e, he, hb, hon⟩ := hprd j hj
            have hlj : lst L j = true := by have := hbef e he hb; rw [hon] at this; exact this
            exact (hfacts j hjm hlj tj hdj).2
          have hX : ∀ t v, (t, v) ∈ X → ∃ j, j < m ∧ lst L j = true ∧ dstOf l j = some t ∧ v = val j := by
            intro t v h
            obtain ⟨j, hj, hjj⟩ := List.mem_filterMap.1 h
            split at hjj
            · rename_i hlj
              cases hdj : dstOf l j with
              | none => rw [hdj] at hjj; cases hjj
              | some tj =>
                rw [hdj] at hjj
                simp only [Option.map_some, Option.some.injEq, Prod.mk.injEq] at hjj
                obtain ⟨rfl, rfl⟩ := hjj
                exact ⟨j, List.mem_range.1 hj, hlj, hdj, rfl⟩
            · cases hjj
          have hgets : ∀ acc' : Env, (∀ t v, (t, v) ∈ acc' → ∃ j ∈ predsG o, dstOf l j = some t ∧ v = val j) → ∀ t v, Env.get (acc' ++ (env ++ X)) t = some v → a.tmps.getD t undef = v := by
            intro acc' hmem t v hgv
            rw [Env.get_append, Env.get_append] at hgv
            cases hga : Env.get acc' t with
            | some u =>
              rw [hga] at hgv; simp at hgv; subst hgv
              obtain ⟨j, hj, hdj, rfl⟩ := hmem t u (get_mem _ _ _ hga)
              obtain ⟨hjm, e, he, hb, hon⟩ := hprd j hj
              have hlj : lst L j = true := by have := hbef e he hb; rw [hon] at this; exact this
              exact (hfacts j hjm hlj t hdj).1
            | none =>
              rw [hga] at hgv; simp only [Option.none_or] at hgv
              cases hge : Env.get env t with
              | some u => rw [hge] at hgv; simp at hgv; subst hgv; exact henv t u hge
              | none =>
                rw [hge] at hgv; simp only [Option.none_or] at hgv
                obtain ⟨j, hj, hlj, hdj, rfl⟩ := hX t v (get_mem _ _ _ hgv)
                exact (hfacts j hj hlj t hdj).1
          have hnextG : ∀ (acc' : Env), (∀ t v, (t, v) ∈ acc' → ∃ j ∈ predsG o, dstOf l j = some t ∧ v = val j) → ∀ (a' : Act) (w' : World) (σ' : St) (v : Value) (ent' : Nat × SObj), Rel C σ' a' w' → Le H' σ'.H → Gd σ'.H → σ'.df = df → σ'.env = putE o.dst v (acc' ++ (env ++ X)) → factAt F i v σ'.H →
              (∀ ms : List Nat, Ok C.G σ'.H (σ'.own ++ (ms.map hid ++ C.hid)) w' → Ok C.G σ'.H ((ent' :: own) ++ (ms.map hid ++ C.hid)) w') →
              entQ mods FO (lst (L.setIfInBounds i true)) (fun j => if j = i then v else val j) ent' σ'.H →
              wpAnyIn (Fr C.r) 0 C.P .any l.toArray (lift C H Q) fuel (L.setIfInBounds i true) a' w' := by
            intro acc' hmem a' w' σ' v ent' hr' hle' hGd' hdf' henv' hfv hown' hent'
            refine ih (L.setIfInBounds i true) a' w' (fun j => if j = i then v else val j) ent' σ'.H (by simpa using hs) ?_ (hle.trans hle') hGd' ?_ ?_ hr'.size ?_ ?_ hent' ?_
            · have := unl_set hs hilt hun; omega
            · intro i' o' hi' hl' e he hb
              rw [lst_set (by omega)] at hl' ⊢
              split
              · rfl
              · split at hl'
                · rename_i e1 e2; subst e2; rw [ho'] at hi'; cases hi'; exact hbef e he hb
                · exact hdown i' o' hi' hl' e he hb
            · intro j hj
              rw [lst_set (by omega), if_neg (by omega)]
              exact hT j hj
            · intro t' v' hg'
              refine hr'.get t' v' ?_
              have hin : t' ∈ env.map Prod.fst := List.mem_map.2 ⟨(t', v'), get_mem _ _ _ hg', rfl⟩
              rw [henv', get_putE_ne (fun e => (hd t' e).1 hin), Env.get_append, Env.get_append]
              have : Env.get acc' t' = none := by
                cases hga : Env.get acc' t' with
                | none => rfl
                | some u =>
                  obtain ⟨j, hj, hdj, _⟩ := hmem t' u (get_mem _ _ _ hga)
                  exact absurd hin (hkey j t' (hprd j hj).1 hdj)
              rw [this, hg']; rfl
            · obtain ⟨ms, hd', hok'⟩ := hr'.ok
              exact ⟨ms, by rw [hd', hdf'], hown' ms hok'⟩
            · intro j hj hlj tj htj
              rw [lst_set (by omega)] at hlj
              by_cases hji : j = i
              · subst hji
                rw [hdo] at htj
                simp only [if_true]
                refine ⟨hr'.get tj v ?_, hfv⟩
                rw [henv', htj]; simp [putE, Env.get]
              · rw [if_neg hji] at hlj
                obtain ⟨h1, h2⟩ := hfacts j hj hlj tj htj
                simp only [if_neg hji]
                refine ⟨hr'.get tj (val j) ?_, factAt_mono hmono hle' h2⟩
                rw [henv', get_putE_ne (fun e => hji (hdis j i tj hj him htj (by rw [hdo, e]))), Env.get_append, Env.get_append]
                have hacc : Env.get acc' tj = none ∨ Env.get acc' tj = some (val j) := by
                  cases hga : Env.get acc' tj with
                  | none => exact .inl rfl
                  | some u =>
                    obtain ⟨j', hj', hdj', rfl⟩ := hmem tj u (get_mem _ _ _ hga)
                    obtain rfl := hdis j' j tj (hprd j' hj').1 hj hdj' htj
                    exact .inr rfl
                rcases hacc with hacc | hacc
                · rw [hacc]
                  have henvn : Env.get env tj = none := by
                    cases hge : Env.get env tj with
                    | none => rfl
                    | some u => exact absurd (List.mem_map.2 ⟨(tj, u), get_mem _ _ _ hge, rfl⟩) (hkey j tj hj htj)
                  rw [henvn]
                  simp only [Option.none_or]
                  -- it stands in X, once
                  refine get_uniq X (List.mem_filterMap.2 ⟨j, List.mem_range.2 hj, by simp only [hlj, if_true, htj, Option.map_some]⟩) ?_
                  intro u hu'
                  obtain ⟨j', hj', _, hdj', rfl⟩ := hX tj u hu'
                  obtain rfl := hdis j' j tj hj' hj hdj' htj
                  rfl
                · rw [hacc]; rfl
          have hcase : ∀ (acc' : Env) (own2 : Own) (Q2 : Exit → St → Prop), (∀ e σ, e ≠ .normal → ¬ Q2 e σ) → XO C l.toArray Q2 [o] ⟨acc' ++ (env ++ X), df, H', own2⟩ → Rel C ⟨acc' ++ (env ++ X), df, H', own2⟩ a w →
              (∀ a' w', lift C H' Q2 .normal a' w' → wpAnyIn (Fr C.r) 0 C.P .any l.toArray (lift C H Q) fuel (L.setIfInBounds i true) a' w') → wpOpIn (Fr C.r) 0 C.P l.toArray (lift C H Q) i (fun a' w' => wpAnyIn (Fr C.r) 0 C.P .any l.toArray (lift C H Q) fuel (L.setIfInBounds i true) a' w') a w := by
            intro acc' own2 Q2 hno hk hrel hnext
            have hrun := hk a w hrel
            unfold wpOpIn
            rw [ho]
            simp only [wpListIn] at hrun ⊢
            split
            · rename_i hw
              rw [if_pos hw] at hrun
              refine wpInOper_mono hnext ?_ hrun
              rintro e a' w' he ⟨σ', _, _, hq⟩
              exact absurd hq (hno e σ' he)
            · rename_i hw
              rw [if_neg hw] at hrun
              exact ⟨hrun.1, hnext _ _ hrun.2⟩
          obtain ⟨acc', hk0, hmem⟩ := withP_of (val := val) (predsG o) [] _ (hst X ent H' hle hGd) hpredF
          have hch2 := chainB_bef hch
          have hrank : ∀ r, mods[r]? = some i → entJ mods (lst L) r := by
            intro r hr
            obtain ⟨j, hj, h1, h2, h3⟩ := hents
            have hrl : r < mods.length := (List.getElem?_eq_some_iff.1 hr).1
            have hri : mods.getD r 0 = i := by rw [List.getD_eq_getElem?_getD, hr]; rfl
            have hrj : j ≤ r := by
              rcases Nat.lt_or_ge r j with h | h
              · have := h1 r h; rw [hri, hun] at this; cases this
              · exact h
            refine ⟨fun q hq => ?_, fun q hq hql => h2 q (by omega) hql⟩
            have hall2 : ∀ d q, q + d + 1 = r → lst L (mods.getD q 0) = true := by
              intro d
              induction d with
              | zero =>
                intro q hq
                have hb := hch2 q (by omega)
                rw [show q + 1 = r by omega, hri] at hb
                unfold befI at hb
                rw [ho'] at hb
                simp only [List.any_eq_true, Bool.and_eq_true] at hb
                obtain ⟨ed, hed, h4, h5⟩ := hb
                have := hbef ed (by simpa using hed) h4
                rwa [Nat.eq_of_beq_eq_true h5] at this
              | succ d ihd =>
                intro q hq
                have hn := ihd (q + 1) (by omega)
                have hb := hch2 q (by omega)
                unfold befI at hb
                split at hb
                · rename_i o3 ho3
                  simp only [List.any_eq_true, Bool.and_eq_true] at hb
                  obtain ⟨ed, hed, h4, h5⟩ := hb
                  have := hdown _ o3 ho3 hn ed (by simpa using hed) h4
                  rwa [Nat.eq_of_beq_eq_true h5] at this
                · cases hb
            exact hall2 (r - q - 1) q (by omega)
          have hk := hk0 (by
            unfold factQ
            cases hr : rankQ mods i with
            | none => trivial
            | some r =>
              obtain ⟨hr1, hr2⟩ := rankQ_some hr
              obtain ⟨hA, hB⟩ := hrank r hr1
              have h3 := entQ_at hents hr2 hA hB
              cases r with
              | zero => simpa [lastV] using h3
              | succ r =>
                intro t v hdt hg
                obtain ⟨j', hj', hdj, rfl⟩ := hmem t v (env_get_mem (by simpa using hg))
                obtain rfl := hdis _ j' t (chainB_lt hch (by omega)) (hprd j' hj').1 hdt hdj
                simpa [lastV] using h3)
          simp only [List.append_nil] at hk
          refine hcase acc' _ _ (fun e σ he => by cases e <;> first | exact absurd rfl he | exact fun h => h) hk ⟨hsz, hgets acc' hmem, hok⟩ ?_
          rintro a' w' ⟨σ', hr', hle', hGd', hdf', v, e2, henv', hfv, hown', hfo⟩
          refine hnextG acc' hmem a' w' σ' v e2 hr' hle' hGd' hdf' henv' hfv ?_ ?_
          · intro ms hok'
            rw [hown'] at hok'
            exact hok'
          · unfold foQ at hfo
            cases hr : rankQ mods i with
            | none =>
              rw [hr] at hfo
              simp only at hfo
              subst hfo
              obtain ⟨j, hj, h1, h2, h3⟩ := hents
              have hne : ∀ q, q < mods.length → mods.getD q 0 ≠ i := fun q hq e => rankQ_none hr q hq e
              refine ⟨j, hj, fun q hq => ?_, fun q hq hql => ?_, ?_⟩
              · rw [lst_set (by omega), if_neg (hne q (by omega))]; exact h1 q hq
              · rw [lst_set (by omega), if_neg (hne q hql)]; exact h2 q hq hql
              · have e : lastV mods (fun j => if j = i then v else val j) j = lastV mods val j := by
                  unfold lastV
                  cases j with
                  | zero => rfl
                  | succ j => simp only; rw [if_neg (hne j (by omega))]
                rw [e]; exact hFO _ _ _ _ _ hle' h3
            | some r =>
              rw [hr] at hfo
              simp only at hfo
              obtain ⟨hr1, hr2⟩ := rankQ_some hr
              obtain ⟨hA, hB⟩ := hrank r hr1
              have hri : mods.getD r 0 = i := by rw [List.getD_eq_getElem?_getD, hr1]; rfl
              refine ⟨r + 1, hr2, fun q hq => ?_, fun q hq hql => ?_, ?_⟩
              · rw [lst_set (by omega)]
                split
                · rfl
                · rename_i hne
                  have : q ≠ r := fun e => by rw [e, hri] at hne; exact hne rfl
                  exact hA q (by omega)
              · have hlt := chainB_mono hch hdc (show r < q by omega) hql
                rw [lst_set (by omega), if_neg (by rw [← hri]; omega)]
                exact hB q (by omega) hql
              · simp only [lastV]
                rw [hri, if_pos rfl]; exact hfo
  have hlst0 : ∀ j, lst (Array.replicate l.toArray.size false) j = false := fun j => by simp [lst, Array.getD_eq_getD_getElem?, Array.getElem?_replicate]; split <;> rfl
  exact main l.toArray.size (Array.replicate l.toArray.size false) a₀ _ (fun _ => undef) q H (by simp) (by
      refine Nat.le_trans (List.countP_le_length) (by simp)) (Le.refl _) hG (fun i o _ hl => by
      have : lst (Array.replicate l.toArray.size false) i = false := by simp [lst, Array.getD_eq_getD_getElem?, Array.getElem?_replicate]; split <;> rfl
      rw [this] at hl; cases hl) (fun j _ => by simp [lst, Array.getD_eq_getD_getElem?, Array.getElem?_replicate]; split <;> rfl) hr₀.size hr₀.get
    (let ⟨ms, hd, hok⟩ := hr₀.ok; ⟨ms, hd, hok.drew⟩) ⟨0, Nat.zero_le _, fun q hq => absurd hq (by omega), fun q _ _ => hlst0 _, by simpa [lastV] using hq0⟩ (fun i _ h => by
      have : lst (Array.replicate l.toArray.size false) i = false := by simp [lst, Array.getD_eq_getD_getElem?, Array.getElem?_replicate]; split <;> rfl
      rw [this] at h; cases h)
end
theorem foQ_no {mods : List Nat} {k : Nat} {FO : Nat → Value → Nat × SObj → Hp → Prop} {e : Nat × SObj} {v : Value} {H : Hp} (hr : rankQ mods k = none) : foQ mods k FO e v e H := by unfold foQ; rw [hr]
theorem foQ_mod {mods : List Nat} {k j : Nat} {FO : Nat → Value → Nat × SObj → Hp → Prop} {e0 e : Nat × SObj} {v : Value} {H : Hp} (hr : rankQ mods k = some j) (h : FO (j + 1) v e H) : foQ mods k FO e0 v e H := by unfold foQ; rw [hr]; exact h
theorem factQ_0 {l : List Oper} {mods : List Nat} {FO : Nat → Value → Nat × SObj → Hp → Prop} {k : Nat} {acc : Env} {e : Nat × SObj} {H : Hp} (hr : rankQ mods k = some 0) (h : factQ l mods FO k acc e H) : FO 0 undef e H := by unfold factQ at h; rw [hr] at h; exact h
theorem factQ_s {l : List Oper} {mods : List Nat} {FO : Nat → Value → Nat × SObj → Hp → Prop} {k j : Nat} {acc : Env} {e : Nat × SObj} {H : Hp} {t : Tmp} {v : Value} (hr : rankQ mods k = some (j + 1)) (h : factQ l mods FO k acc e H) (ht : dstOf l (mods.getD j 0) = some t) (hv : Env.get acc t = some v) : FO (j + 1) v e H := by unfold factQ at h; rw [hr] at h; exact h t v ht hv
theorem lastQ_s {l : List Oper} {mods : List Nat} {FO : Nat → Value → Nat × SObj → Hp → Prop} {n : Nat} {acc : Env} {e : Nat × SObj} {H : Hp} {t : Tmp} {v : Value} (hm : mods.length = n + 1) (h : lastQ l mods FO acc e H) (ht : dstOf l (mods.getD n 0) = some t) (hv : Env.get acc t = some v) : FO (n + 1) v e H := by unfold lastQ at h; rw [hm] at h; exact h t v ht hv
end Go.XL

/- Strings: their length, and their bytes appended to a slice. No statement of the program stands here. -/
set_option autoImplicit false
set_option linter.unusedSimpArgs false
set_option linter.unusedVariables false
namespace Go.XL
theorem strC (m : List UInt8) : Go.Lib.strCells (bsOf m) = m.map fun b => Value.int .u8 (b.toNat : Nat) := by
  simp [Go.Lib.strCells, bsOf]
theorem rowsStr (H : Hp) : ∀ m : List UInt8, RowsR u8R H (m.map fun b => Value.int .u8 (b.toNat : Nat)) m
  | [] => rfl
  | x :: r => ⟨[.int .u8 (x.toNat : Nat)], _, rfl, rfl, rowsStr H r⟩
theorem bsSize (m : List UInt8) : (bsOf m).size = m.length := by simp [bsOf, ByteArray.size]
theorem run_append_accS {H : Hp} {own : Own} {P : Program} {G : World} {w : World} {fr : Own} {t u e t' : TypeId} {i : Nat} {p : Nat × SObj} {a : Option Addr} {c : Nat} {l m : List UInt8} {zs : List Value} {agg : Bool}
    (hok : Ok G H (own ++ fr) w) (hp : Own.at own i = some p) (hacc : Acc u8R e H p a c l) (ht : P.underlying t = some (.slice e)) (hu : P.underlying u = some .string) (he : tyF P e 1 agg = true) (hz : zeroC P e = some zs) (hzl : Nat.beq zs.length 1 = true) (hby : Nat.ble (P.bytesOf e) 4096 = true) (hn : l.length + m.length ≤ 1073741824) :
    ∃ p' a'' c'' w', (Builtin.append_ #[t, u] t' #[.slice a l.length c, .string (bsOf m)]).run P w = .ok (.slice a'' (l ++ m).length c'') w' ∧ Acc u8R e H p' a'' c'' (l ++ m) ∧ Ok G H (Own.set2 own i p' ++ fr) w' := by
  obtain ⟨_, inf, hi, hsz⟩ := tyF_run he
  have hzl := Nat.eq_of_beq_eq_true hzl
  have hby := Nat.le_of_ble_eq_true hby
  have hby' : inf.bytes ≤ 4096 := by simpa [Program.bytesOf, hi] using hby
  have hmul : (l.length + m.length) * inf.bytes ≤ 140737488355328 := Nat.le_trans (Nat.mul_le_mul hn hby') (by decide)
  obtain ⟨z, hzz, hzc⟩ : ∃ z, inf.zero = some z ∧ z.cells = zs.toArray := by
    unfold zeroC at hz
    rw [hi] at hz
    simp only at hz
    split at hz
    · rename_i z hzz; exact ⟨z, hzz, cellsO_eq hz⟩
    · cases hz
  have hrows := rowsStr H m
  have hss := bsSize m
  cases hl' : m with
  | nil =>
    have hc := hacc.le
    refine ⟨p, a, c, w, ?_, by simpa using hacc, by rw [Own.set2_at hp]; exact hok⟩
    have hlc : l.length ≤ c := hc
    simp only [List.append_nil, List.length_nil]
    have hs0 : (bsOf []).size = 0 := rfl
    simp [Builtin.append_, run_underlying ht, run_underlying hu, sizeOf, typeInfo, hi, Builtin.lenOf, hlc, Builtin.firstCells, hs0]
    cases a <;> simp [storeCells, Sem.run, Pure.pure, hlc, hs0]
  | cons x0 lt =>
    rw [← hl']
    have hpos : 0 < m.length := by rw [hl']; simp
    have hlen : (m.map fun b => Value.int .u8 ((b.toNat : Nat) : Int)).length = m.length := by simp
    rcases hacc with ⟨rfl, rfl, rfl, hnone⟩ | ⟨xs, rfl, hrow, hxs, hlc⟩
    · have hrun := Go.run_append_nil_string (P := P) (w := w) t u t' e inf z ht hu hi hzz (bsOf m) (by rw [hss]; exact hpos) (by rw [hss]; simp at hn; omega) (by rw [hss]; simp at hmul; omega)
      rw [hss] at hrun
      have hge := grownCap_ge w m.length 0 e
      refine ⟨(w.heap.size, .row e (grownCap w m.length 0 e * 1) (m.map fun b => Value.int .u8 (b.toNat : Nat))), _, _, _, by simpa using hrun, .inr ⟨_, rfl, rfl, by simpa using hrows, by simpa using hge⟩, ?_⟩
      refine hok.swap hp ⟨(Builtin.zeroCells z.cells (grownCap w m.length 0 e - m.length)).toList, by simp [bsOf], ?_⟩
      rw [hzc, List.length_append, zeroCells_len, hzl, hlen]
      omega
    · obtain ⟨b, s⟩ := p
      simp only at hrow hp ⊢
      subst hrow
      obtain ⟨ct, hbw, hbn⟩ := row_of hok (List.mem_append_left fr (Own.at_mem hp))
      have hxl : xs.length = l.length := by have := hxs.length; rw [this, show u8R.sz = 1 from rfl, Nat.mul_one]
      have hu1 : u8R.sz = 1 := rfl
      by_cases hroom : l.length + m.length ≤ c
      · have hfit : l.length + (bsOf m).size ≤ (xs ++ ct).toArray.size := by
          simp only [List.size_toArray]
          rw [hbn, hss, hu1]; omega
        have hrun := Go.Lib.run_append_room_string (P := P) (w := w) t u t' e inf ht hu hi hsz b l.length c (xs ++ ct).toArray hbw (bsOf m) (by rw [hss]; exact hroom) hfit
        rw [strC, hss] at hrun
        refine ⟨(b, .row e (c * 1) (xs ++ m.map fun b => Value.int .u8 (b.toNat : Nat))), _, _, _, by simpa using hrun, .inr ⟨_, rfl, rfl, hxs.append hrows, by simpa using hroom⟩, ?_⟩
        refine hok.write2 hp rfl hbw ⟨(xs ++ ct).drop (l.length + m.length), ?_, ?_⟩
        · rw [List.take_append_of_le_length (by simp [hxl]), List.take_of_length_le (by simp [hxl])]
          try simp only [List.append_assoc]
        · have h5 : (xs ++ ct).length = c * 1 := hbn
          simp only [List.length_append, List.length_drop, List.length_map] at h5 ⊢
          omega
      · have hrun := Go.Lib.run_append_grow_string (P := P) (w := w) t u t' e inf z ht hu hi hzz ⟨b, 0, none⟩ l.length c xs (by rw [hsz, hxl, Nat.mul_one])
          (fun j v hj => by
            have hj' := (List.getElem?_eq_some_iff.1 hj).1
            rw [addr_add]; simp only [World.cell?, hbw, Nat.zero_add]
            simp only [Option.isSome_none, Bool.false_eq_true, if_false, List.getElem?_toArray]
            rw [List.getElem?_append_left hj', hj])
          (bsOf m) (by rw [hss]; omega) (by rw [hss]; omega) (by rw [hss]; exact growslice_fits (by omega) hmul)
        rw [strC, hss] at hrun
        have hge := grownCap_ge w (l.length + m.length) c e
        refine ⟨(w.heap.size, .row e (grownCap w (l.length + m.length) c e * 1) (xs ++ m.map fun b => Value.int .u8 (b.toNat : Nat))), _, _, _, by simpa using hrun, .inr ⟨_, rfl, rfl, hxs.append hrows, by simpa using hge⟩, ?_⟩
        refine hok.swap hp ⟨(Builtin.zeroCells z.cells (grownCap w (l.length + m.length) c e - (l.length + m.length))).toList, by simp, ?_⟩
        rw [hzc, List.length_append, zeroCells_len, hzl, List.length_append, hxl, hlen]
        omega
section
variable {C : Ctx} {ops : Array Oper} {Q : Exit → St → Prop} {rest : List Oper} {env : Env} {df : List Deferred} {H : Hp} {own : Own} {dst : Option Tmp} {ty : TypeId} {pos : String} {af : Array Edge}
theorem XO.appendS (i : Nat) {t u e : TypeId} {x y : Operand} {p : Nat × SObj} {a : Option Addr} {c n : Nat} {l m : List UInt8} {zs : List Value} {agg : Bool}
    (hx : ev env x = some (.slice a n c)) (hp : Own.at own i = some p) (hacc : Acc u8R e H p a c l) (hln : n = l.length) (hy : ev env y = some (.string (bsOf m)))
    (ht : C.P.underlying t = some (.slice e)) (hu : C.P.underlying u = some .string) (he : tyF C.P e 1 agg = true) (hz : zeroC C.P e = some zs) (hzl : Nat.beq zs.length 1 = true) (hby : Nat.ble (C.P.bytesOf e) 4096 = true) (hn : l.length + m.length ≤ 1073741824) (hd : dstOk C.N dst = true)
    (h : ∀ p' a'' c'', Acc u8R e H p' a'' c'' (l ++ m) → XO C ops Q rest ⟨putE dst (.slice a'' (l ++ m).length c'') env, df, H, Own.set2 own i p'⟩) :
    XO C ops Q (⟨dst, .call { callee := .builtin .append, args := #[x, y], argTypes := #[t, u] }, ty, pos, af, none⟩ :: rest) ⟨env, df, H, own⟩ := by
  refine XO.op rfl rfl hd fun ρ' w fr ha hok => ?_
  subst hln
  obtain ⟨p', a'', c'', w', hrun, hacc', hok'⟩ := run_append_accS (P := C.P) (t := t) (u := u) (t' := ty) (m := m) hok hp hacc ht hu he hz hzl hby hn
  refine ⟨.value (.slice a'' (l ++ m).length c''), _, w', H, _, ?_, .inl rfl, Le.refl _, hok', h _ _ _ hacc'⟩
  simp only [execOp, resolve, Sem.run_bind]
  simp only [Pure.pure, Sem.run, Result.andThen, invoke, builtin, Sem.run_bind]
  simp [ha _ _ hx, ha _ _ hy, hrun, Result.andThen, Sem.run]
theorem XO.lenStr {t : TypeId} {x : Operand} {s : List UInt8} (hx : ev env x = some (.string (bsOf s))) (ht : C.P.underlying t = some .string) (hs : s.length < 9223372036854775808) (hd : dstOk C.N dst = true)
    (h : XO C ops Q rest ⟨putE dst (.int .i64 (s.length : Nat)) env, df, H, own⟩) :
    XO C ops Q (⟨dst, .call { callee := .builtin .len, args := #[x], argTypes := #[t] }, ty, pos, af, none⟩ :: rest) ⟨env, df, H, own⟩ :=
  XO.pure rfl rfl hd (fun ρ ha w => by
    simp only [execOp, resolve, Sem.run_bind]
    simp only [Pure.pure, Sem.run, Result.andThen, invoke, builtin, Sem.run_bind, Builtin.len_]
    simp [ha _ _ hx, Sem.run_bind, run_underlying ht, Result.andThen, goInt, Pure.pure, Sem.run, bsSize]) h
end
/-- blocks of the call's own that are not needed any more -/
theorem XO.lose {C : Ctx} {ops : Array Oper} {Q : Exit → St → Prop} {rest : List Oper} {env : Env} {df : List Deferred} {H : Hp} {own own' : Own} (ho : own'.Sublist own) (h : XO C ops Q rest ⟨env, df, H, own'⟩) : XO C ops Q rest ⟨env, df, H, own⟩ := fun a w hr =>
  let ⟨ms, hd, hk⟩ := hr.ok
  h a w ⟨hr.size, hr.get, ms, hd, hk.shrink (Le.refl _) (ho.append_right _)⟩
end Go.XL

/- The walks of the functions of the codec: what each of them computes, at any input. -/
set_option autoImplicit false
set_option linter.unusedVariables false
set_option linter.unusedSimpArgs false
namespace Go.Proofs
open Go.XL

theorem follows : Try.prog.follows .mixedOrders = true := by kernel_rfl
theorem fa_24_0 : fieldF Try.prog 24 0 = some 0 := by kernel_rfl
theorem fa_24_1 : fieldF Try.prog 24 1 = some 1 := by kernel_rfl
theorem fa_24_2 : fieldF Try.prog 24 2 = some 2 := by kernel_rfl
theorem fa_24_3 : fieldF Try.prog 24 3 = some 3 := by kernel_rfl
theorem ty_22 : tyF Try.prog 22 1 false = true := by kernel_rfl
theorem ty_24 : tyF Try.prog 24 4 true = true := by kernel_rfl
theorem ty_3 : tyF Try.prog 3 1 false = true := by kernel_rfl
theorem ty_4 : tyF Try.prog 4 1 false = true := by kernel_rfl
theorem ty_47 : tyF Try.prog 47 1 false = true := by kernel_rfl
theorem ty_49 : tyF Try.prog 49 1 true = true := by kernel_rfl
theorem ty_71 : tyF Try.prog 71 4 true = true := by kernel_rfl
theorem ty_9 : tyF Try.prog 9 1 false = true := by kernel_rfl
theorem ze_24 : zeroC Try.prog 24 = some [.int .i64 0, .int .i64 0, .string ⟨#[]⟩, .slice none 0 0] := by kernel_rfl
theorem ze_71 : zeroC Try.prog 71 = some [.bool false, .bool false, .bool false, .bool false] := by kernel_rfl

set_option maxRecDepth 100000 in
set_option maxHeartbeats 1600000 in
theorem formed_all : ∀ (m : Nat) (k n : Int) (s : List UInt8) (l : List Val) (a : Option Addr) (c : Nat) (H : Hp), wszV (.mk k n s l) ≤ m → m ≤ 1000000 → SlR valR H a c l → FnC Try.prog 28 #[.agg ⟨[.int .i64 k, .int .i64 n, .string (bsOf s), .slice a l.length c]⟩] H [] (RetR (fun v _ _ => v = fdR (.mk k n s l))) := by
  intro m
  refine Nat.strongRecOn m ?_
  clear m
  intro m ih k n s l a c H hw hm hs
  have hwl := wsz_len (l := l)
  rw [wszV] at hw
  refine FnC.intro (args := [.agg ⟨[.int .i64 k, .int .i64 n, .string (bsOf s), .slice a l.length c]⟩]) Try.func28 rfl rfl Try.ntmps28 rfl rfl rfl fun G rest => ?_
  refine XC.seq ?_
  refine XC.region ?_
  refine XO.box rfl rfl rfl (fun b1 => ?_)
  refine XO.assign rfl rfl ?_
  refine XO.assign rfl rfl ?_
  refine XO.nil ?_
  refine XC.seq2 ?_
  refine XC.join (base := [(1, _), (2, _)]) (fun ζ : (Nat) × (Bool) × (Bool) × (Bool) => [(4, .pointer (some ⟨ζ.1, 0, none⟩))]) (fun ζ Hl own => (ζ.1, .cells 71 [.bool false, .bool ζ.2.1, .bool ζ.2.2.1, .bool ζ.2.2.2]) :: (b1, .cells 24 [.int .i64 k, .int .i64 n, .string (bsOf s), .slice a l.length c]) :: rest = own ∧ (ζ.2.1 = true ↔ s = [] ∧ l = []) ∧ (ζ.2.2.1 = true ↔ n = 0 ∧ l = []) ∧ (ζ.2.2.2 = true ↔ n = 0 ∧ s = [])) (prov_cons (rfl) (prov_cons (rfl) prov_nil)) (fun hleJ1 => ?_) ?_
  · skip
    refine XC.region ?_
    refine XO.fieldAddr rfl fa_24_2 rfl ?_
    refine XO.loadO 0 rfl rfl ty_9 rfl rfl rfl ?_
    refine XO.eqlS rfl rfl rfl ?_
    refine XO.move rfl rfl ?_
    refine XO.guardC rfl rfl rfl rfl (fun g2 => ?_) (fun g2 => ?_)
    · have g2p := of_decide_eq_true g2
      refine XO.fieldAddr rfl fa_24_3 rfl ?_
      refine XO.guardT rfl rfl (g2) rfl ?_
      refine XO.loadO 0 rfl rfl ty_22 rfl rfl rfl ?_
      refine XO.guardT rfl rfl (g2) rfl ?_
      refine XO.lenS (ts := #[]) rfl Try.underlying22 rfl ?_
      refine XO.guardT rfl rfl (g2) rfl ?_
      refine XO.eql rfl rfl rfl ?_
      refine XO.pickT rfl (g2) rfl rfl ?_
      refine XO.fieldAddr rfl fa_24_1 rfl ?_
      refine XO.loadO 0 rfl rfl ty_3 rfl rfl rfl ?_
      refine XO.eql rfl rfl rfl ?_
      refine XO.move rfl rfl ?_
      refine XO.guardC rfl rfl rfl rfl (fun g3 => ?_) (fun g3 => ?_)
      · have g3p := of_decide_eq_true g3
        refine XO.fieldAddr rfl fa_24_3 rfl ?_
        refine XO.guardT rfl rfl (g3) rfl ?_
        refine XO.loadO 0 rfl rfl ty_22 rfl rfl rfl ?_
        refine XO.guardT rfl rfl (g3) rfl ?_
        refine XO.lenS (ts := #[]) rfl Try.underlying22 rfl ?_
        refine XO.guardT rfl rfl (g3) rfl ?_
        refine XO.eql rfl rfl rfl ?_
        refine XO.pickT rfl (g3) rfl rfl ?_
        refine XO.fieldAddr rfl fa_24_1 rfl ?_
        refine XO.loadO 0 rfl rfl ty_3 rfl rfl rfl ?_
        refine XO.eql rfl rfl rfl ?_
        refine XO.move rfl rfl ?_
        refine XO.guardC rfl rfl rfl rfl (fun g4 => ?_) (fun g4 => ?_)
        · have g4p := of_decide_eq_true g4
          refine XO.fieldAddr rfl fa_24_2 rfl ?_
          refine XO.guardT rfl rfl (g4) rfl ?_
          refine XO.loadO 0 rfl rfl ty_9 rfl rfl rfl ?_
          refine XO.guardT rfl rfl (g4) rfl ?_
          refine XO.eqlS rfl rfl rfl ?_
          refine XO.pickT rfl (g4) rfl rfl ?_
          refine XO.buildArr Try.underlying71 ty_4 ze_71 rfl rfl rfl ?_
          refine XO.alloc ze_71 rfl (fun b4 => ?_)
          refine XO.storeO 0 rfl rfl rfl rfl ty_71 rfl rfl rfl rfl rfl ?_
          refine XO.nil ?_
          refine join_next (b4, decide ((l.length : Int) = 0), decide ((l.length : Int) = 0), decide (s = [])) (prov_cons (rfl) (prov_cons (rfl) (prov_cons (rfl) prov_nil))) (⟨rfl, by simp_all, by simp_all, by simp_all⟩) (by repeat (first | exact List.Sublist.refl _ | apply List.Sublist.cons_cons | apply List.Sublist.cons)) hleJ1
        · have g4p := of_decide_eq_false g4
          refine XO.guardF rfl rfl (g4) rfl rfl ?_
          refine XO.guardF rfl rfl (g4) rfl rfl ?_
          refine XO.pickF rfl (g4) rfl rfl ?_
          refine XO.buildArr Try.underlying71 ty_4 ze_71 rfl rfl rfl ?_
          refine XO.alloc ze_71 rfl (fun b4 => ?_)
          refine XO.storeO 0 rfl rfl rfl rfl ty_71 rfl rfl rfl rfl rfl ?_
          refine XO.nil ?_
          refine join_next (b4, decide ((l.length : Int) = 0), decide ((l.length : Int) = 0), false) (prov_cons (rfl) (prov_cons (rfl) (prov_cons (rfl) prov_nil))) (⟨rfl, by simp_all, by simp_all, by simp_all⟩) (by repeat (first | exact List.Sublist.refl _ | apply List.Sublist.cons_cons | apply List.Sublist.cons)) hleJ1
      · have g3p := of_decide_eq_false g3
        refine XO.guardF rfl rfl (g3) rfl rfl ?_
        refine XO.guardF rfl rfl (g3) rfl rfl ?_
        refine XO.guardF rfl rfl (g3) rfl rfl ?_
        refine XO.pickF rfl (g3) rfl rfl ?_
        refine XO.fieldAddr rfl fa_24_1 rfl ?_
        refine XO.loadO 0 rfl rfl ty_3 rfl rfl rfl ?_
        refine XO.eql rfl rfl rfl ?_
        refine XO.move rfl rfl ?_
        refine XO.guardC rfl rfl rfl rfl (fun g5 => ?_) (fun g5 => ?_)
        · have g5p := of_decide_eq_true g5
          refine XO.fieldAddr rfl fa_24_2 rfl ?_
          refine XO.guardT rfl rfl (g5) rfl ?_
          refine XO.loadO 0 rfl rfl ty_9 rfl rfl rfl ?_
          refine XO.guardT rfl rfl (g5) rfl ?_
          refine XO.eqlS rfl rfl rfl ?_
          refine XO.pickT rfl (g5) rfl rfl ?_
          refine XO.buildArr Try.underlying71 ty_4 ze_71 rfl rfl rfl ?_
          refine XO.alloc ze_71 rfl (fun b4 => ?_)
          refine XO.storeO 0 rfl rfl rfl rfl ty_71 rfl rfl rfl rfl rfl ?_
          refine XO.nil ?_
          refine join_next (b4, decide ((l.length : Int) = 0), false, decide (s = [])) (prov_cons (rfl) (prov_cons (rfl) (prov_cons (rfl) prov_nil))) (⟨rfl, by simp_all, by simp_all, by simp_all⟩) (by repeat (first | exact List.Sublist.refl _ | apply List.Sublist.cons_cons | apply List.Sublist.cons)) hleJ1
        · have g5p := of_decide_eq_false g5
          refine XO.guardF rfl rfl (g5) rfl rfl ?_
          refine XO.guardF rfl rfl (g5) rfl rfl ?_
          refine XO.pickF rfl (g5) rfl rfl ?_
          refine XO.buildArr Try.underlying71 ty_4 ze_71 rfl rfl rfl ?_
          refine XO.alloc ze_71 rfl (fun b4 => ?_)
          refine XO.storeO 0 rfl rfl rfl rfl ty_71 rfl rfl rfl rfl rfl ?_
          refine XO.nil ?_
          refine join_next (b4, decide ((l.length : Int) = 0), false, false) (prov_cons (rfl) (prov_cons (rfl) (prov_cons (rfl) prov_nil))) (⟨rfl, by simp_all, by simp_all, by simp_all⟩) (by repeat (first | exact List.Sublist.refl _ | apply List.Sublist.cons_cons | apply List.Sublist.cons)) hleJ1
    · have g2p := of_decide_eq_false g2
      refine XO.guardF rfl rfl (g2) rfl rfl ?_
      refine XO.guardF rfl rfl (g2) rfl rfl ?_
      refine XO.guardF rfl rfl (g2) rfl rfl ?_
      refine XO.pickF rfl (g2) rfl rfl ?_
      refine XO.fieldAddr rfl fa_24_1 rfl ?_
      refine XO.loadO 0 rfl rfl ty_3 rfl rfl rfl ?_
      refine XO.eql rfl rfl rfl ?_
      refine XO.move rfl rfl ?_
      refine XO.guardC rfl rfl rfl rfl (fun g6 => ?_) (fun g6 => ?_)
      · have g6p := of_decide_eq_true g6
        refine XO.fieldAddr rfl fa_24_3 rfl ?_
        refine XO.guardT rfl rfl (g6) rfl ?_
        refine XO.loadO 0 rfl rfl ty_22 rfl rfl rfl ?_
        refine XO.guardT rfl rfl (g6) rfl ?_
        refine XO.lenS (ts := #[]) rfl Try.underlying22 rfl ?_
        refine XO.guardT rfl rfl (g6) rfl ?_
        refine XO.eql rfl rfl rfl ?_
        refine XO.pickT rfl (g6) rfl rfl ?_
        refine XO.fieldAddr rfl fa_24_1 rfl ?_
        refine XO.loadO 0 rfl rfl ty_3 rfl rfl rfl ?_
        refine XO.eql rfl rfl rfl ?_
        refine XO.move rfl rfl ?_
        refine XO.guardC rfl rfl rfl rfl (fun g7 => ?_) (fun g7 => ?_)
        · have g7p := of_decide_eq_true g7
          refine XO.fieldAddr rfl fa_24_2 rfl ?_
          refine XO.guardT rfl rfl (g7) rfl ?_
          refine XO.loadO 0 rfl rfl ty_9 rfl rfl rfl ?_
          refine XO.guardT rfl rfl (g7) rfl ?_
          refine XO.eqlS rfl rfl rfl ?_
          refine XO.pickT rfl (g7) rfl rfl ?_
          refine XO.buildArr Try.underlying71 ty_4 ze_71 rfl rfl rfl ?_
          refine XO.alloc ze_71 rfl (fun b4 => ?_)
          refine XO.storeO 0 rfl rfl rfl rfl ty_71 rfl rfl rfl rfl rfl ?_
          refine XO.nil ?_
          refine join_next (b4, false, decide ((l.length : Int) = 0), decide (s = [])) (prov_cons (rfl) (prov_cons (rfl) (prov_cons (rfl) prov_nil))) (⟨rfl, by simp_all, by simp_all, by simp_all⟩) (by repeat (first | exact List.Sublist.refl _ | apply List.Sublist.cons_cons | apply List.Sublist.cons)) hleJ1
        · have g7p := of_decide_eq_false g7
          refine XO.guardF rfl rfl (g7) rfl rfl ?_
          refine XO.guardF rfl rfl (g7) rfl rfl ?_
          refine XO.pickF rfl (g7) rfl rfl ?_
          refine XO.buildArr Try.underlying71 ty_4 ze_71 rfl rfl rfl ?_
          refine XO.alloc ze_71 rfl (fun b4 => ?_)
          refine XO.storeO 0 rfl rfl rfl rfl ty_71 rfl rfl rfl rfl rfl ?_
          refine XO.nil ?_
          refine join_next (b4, false, decide ((l.length : Int) = 0), false) (prov_cons (rfl) (prov_cons (rfl) (prov_cons (rfl) prov_nil))) (⟨rfl, by simp_all, by simp_all, by simp_all⟩) (by repeat (first | exact List.Sublist.refl _ | apply List.Sublist.cons_cons | apply List.Sublist.cons)) hleJ1
      · have g6p := of_decide_eq_false g6
        refine XO.guardF rfl rfl (g6) rfl rfl ?_
        refine XO.guardF rfl rfl (g6) rfl rfl ?_
        refine XO.guardF rfl rfl (g6) rfl rfl ?_
        refine XO.pickF rfl (g6) rfl rfl ?_
        refine XO.fieldAddr rfl fa_24_1 rfl ?_
        refine XO.loadO 0 rfl rfl ty_3 rfl rfl rfl ?_
        refine XO.eql rfl rfl rfl ?_
        refine XO.move rfl rfl ?_
        refine XO.guardC rfl rfl rfl rfl (fun g8 => ?_) (fun g8 => ?_)
        · have g8p := of_decide_eq_true g8
          refine XO.fieldAddr rfl fa_24_2 rfl ?_
          refine XO.guardT rfl rfl (g8) rfl ?_
          refine XO.loadO 0 rfl rfl ty_9 rfl rfl rfl ?_
          refine XO.guardT rfl rfl (g8) rfl ?_
          refine XO.eqlS rfl rfl rfl ?_
          refine XO.pickT rfl (g8) rfl rfl ?_
          refine XO.buildArr Try.underlying71 ty_4 ze_71 rfl rfl rfl ?_
          refine XO.alloc ze_71 rfl (fun b4 => ?_)
          refine XO.storeO 0 rfl rfl rfl rfl ty_71 rfl rfl rfl rfl rfl ?_
          refine XO.nil ?_
          refine join_next (b4, false, false, decide (s = [])) (prov_cons (rfl) (prov_cons (rfl) (prov_cons (rfl) prov_nil))) (⟨rfl, by simp_all, by simp_all, by simp_all⟩) (by repeat (first | exact List.Sublist.refl _ | apply List.Sublist.cons_cons | apply List.Sublist.cons)) hleJ1
        · have g8p := of_decide_eq_false g8
          refine XO.guardF rfl rfl (g8) rfl rfl ?_
          refine XO.guardF rfl rfl (g8) rfl rfl ?_
          refine XO.pickF rfl (g8) rfl rfl ?_
          refine XO.buildArr Try.underlying71 ty_4 ze_71 rfl rfl rfl ?_
          refine XO.alloc ze_71 rfl (fun b4 => ?_)
          refine XO.storeO 0 rfl rfl rfl rfl ty_71 rfl rfl rfl rfl rfl ?_
          refine XO.nil ?_
          refine join_next (b4, false, false, false) (prov_cons (rfl) (prov_cons (rfl) (prov_cons (rfl) prov_nil))) (⟨rfl, by simp_all, by simp_all, by simp_all⟩) (by repeat (first | exact List.Sublist.refl _ | apply List.Sublist.cons_cons | apply List.Sublist.cons)) hleJ1
  · rintro ⟨b4, u1, u2, u3⟩ Hl _ hleK1 ⟨rfl, h1, h2, h3⟩
    replace hs := hs.mono hleK1
    try dsimp only at h1 h2 h3⊢ 
    refine XC.seq ?_
    refine XC.seq ?_
    refine XC.region ?_
    refine XO.fieldAddr rfl fa_24_0 rfl ?_
    refine XO.loadO 1 rfl rfl ty_3 rfl rfl rfl ?_
    refine XO.lss rfl rfl rfl ?_
    refine XO.move rfl rfl ?_
    refine XO.guardC rfl rfl rfl rfl (fun g9 => ?_) (fun g9 => ?_)
    · have g9p := of_decide_eq_false g9
      refine XO.fieldAddr rfl fa_24_0 rfl ?_
      refine XO.guardT rfl rfl (g9) rfl ?_
      refine XO.loadO 1 rfl rfl ty_3 rfl rfl rfl ?_
      refine XO.guardT rfl rfl (g9) rfl ?_
      refine XO.gtr rfl rfl rfl ?_
      refine XO.pickF rfl (g9) rfl rfl ?_
      refine XO.move rfl rfl ?_
      refine XO.guardC rfl rfl rfl rfl (fun g10 => ?_) (fun g10 => ?_)
      · have g10p := of_decide_eq_false g10
        refine XO.fieldAddr rfl fa_24_0 rfl ?_
        refine XO.guardT rfl rfl (g10) rfl ?_
        refine XO.loadO 1 rfl rfl ty_3 rfl rfl rfl ?_
        refine XO.guardT rfl rfl (g10) rfl ?_
        have hk3 : k = 1 ∨ k = 2 ∨ k = 3 := by omega
        rcases hk3 with rfl | rfl | rfl
        · skip
          refine XO.indexArr rfl rfl Try.underlying71 ty_4 (by decide) (by decide) rfl ?_
          refine XO.guardT rfl rfl (g10) rfl ?_
          refine XO.loadO 0 rfl rfl ty_4 rfl rfl rfl ?_
          refine XO.guardT rfl rfl (g10) rfl ?_
          refine XO.notB rfl rfl ?_
          refine XO.pickF rfl (g10) rfl rfl ?_
          refine XO.nil ?_
          refine XC.seq2 ?_
          refine XC.condB rfl (fun c0_11 => ?_) (fun c0_11 => ?_)
          · refine XC.seq ?_
            refine XC.region ?_
            refine XO.assign rfl rfl ?_
            refine XO.assign rfl rfl ?_
            refine XO.nil ?_
            refine XC.seq2 ?_
            refine XC.ret ?_
            refine seqX_ret ?_
            refine ⟨rfl, _, [], rfl, (by repeat (first | exact List.Sublist.refl _ | apply List.Sublist.cons)), RetR.mk ?_⟩
            exact fd_no (bfalse fun h => by have h9 := (formed1.1 h); simp_all)
          · refine XC.skip ?_
            refine XC.seq2 ?_
            refine XC.seq ?_
            refine XC.seq ?_
            refine XC.region ?_
            refine XO.fieldAddr rfl fa_24_0 rfl ?_
            refine XO.loadO 1 rfl rfl ty_3 rfl rfl rfl ?_
            refine XO.lss rfl rfl rfl ?_
            refine XO.nil ?_
            refine XC.seq2 ?_
            refine XC.condT rfl (rfl) ?_
            refine XC.seq ?_
            refine XC.region ?_
            refine XO.assign rfl rfl ?_
            refine XO.assign rfl rfl ?_
            refine XO.nil ?_
            refine XC.seq2 ?_
            refine XC.ret ?_
            refine seqX_ret ?_
            refine ⟨rfl, _, [], rfl, (by repeat (first | exact List.Sublist.refl _ | apply List.Sublist.cons)), RetR.mk ?_⟩
            exact fd_yes (formed1.2 (h1.1 (by simp_all))) (by rw [depthV]; rfl)
        · skip
          refine XO.indexArr rfl rfl Try.underlying71 ty_4 (by decide) (by decide) rfl ?_
          refine XO.guardT rfl rfl (g10) rfl ?_
          refine XO.loadO 0 rfl rfl ty_4 rfl rfl rfl ?_
          refine XO.guardT rfl rfl (g10) rfl ?_
          refine XO.notB rfl rfl ?_
          refine XO.pickF rfl (g10) rfl rfl ?_
          refine XO.nil ?_
          refine XC.seq2 ?_
          refine XC.condB rfl (fun c0_12 => ?_) (fun c0_12 => ?_)
          · refine XC.seq ?_
            refine XC.region ?_
            refine XO.assign rfl rfl ?_
            refine XO.assign rfl rfl ?_
            refine XO.nil ?_
            refine XC.seq2 ?_
            refine XC.ret ?_
            refine seqX_ret ?_
            refine ⟨rfl, _, [], rfl, (by repeat (first | exact List.Sublist.refl _ | apply List.Sublist.cons)), RetR.mk ?_⟩
            exact fd_no (bfalse fun h => by have h9 := (formed2.1 h); simp_all)
          · refine XC.skip ?_
            refine XC.seq2 ?_
            refine XC.seq ?_
            refine XC.seq ?_
            refine XC.region ?_
            refine XO.fieldAddr rfl fa_24_0 rfl ?_
            refine XO.loadO 1 rfl rfl ty_3 rfl rfl rfl ?_
            refine XO.lss rfl rfl rfl ?_
            refine XO.nil ?_
            refine XC.seq2 ?_
            refine XC.condT rfl (rfl) ?_
            refine XC.seq ?_
            refine XC.region ?_
            refine XO.assign rfl rfl ?_
            refine XO.assign rfl rfl ?_
            refine XO.nil ?_
            refine XC.seq2 ?_
            refine XC.ret ?_
            refine seqX_ret ?_
            refine ⟨rfl, _, [], rfl, (by repeat (first | exact List.Sublist.refl _ | apply List.Sublist.cons)), RetR.mk ?_⟩
            exact fd_yes (formed2.2 (h2.1 (by simp_all))) (by rw [depthV]; rfl)
        · skip
          refine XO.indexArr rfl rfl Try.underlying71 ty_4 (by decide) (by decide) rfl ?_
          refine XO.guardT rfl rfl (g10) rfl ?_
          refine XO.loadO 0 rfl rfl ty_4 rfl rfl rfl ?_
          refine XO.guardT rfl rfl (g10) rfl ?_
          refine XO.notB rfl rfl ?_
          refine XO.pickF rfl (g10) rfl rfl ?_
          refine XO.nil ?_
          refine XC.seq2 ?_
          refine XC.condB rfl (fun c0_13 => ?_) (fun c0_13 => ?_)
          · refine XC.seq ?_
            refine XC.region ?_
            refine XO.assign rfl rfl ?_
            refine XO.assign rfl rfl ?_
            refine XO.nil ?_
            refine XC.seq2 ?_
            refine XC.ret ?_
            refine seqX_ret ?_
            refine ⟨rfl, _, [], rfl, (by repeat (first | exact List.Sublist.refl _ | apply List.Sublist.cons)), RetR.mk ?_⟩
            exact fd_no (bfalse fun h => by have h9 := (formed3.1 h); simp_all)
          · refine XC.skip ?_
            refine XC.seq2 ?_
            refine XC.seq ?_
            refine XC.seq ?_
            refine XC.region ?_
            refine XO.fieldAddr rfl fa_24_0 rfl ?_
            refine XO.loadO 1 rfl rfl ty_3 rfl rfl rfl ?_
            refine XO.lss rfl rfl rfl ?_
            refine XO.nil ?_
            refine XC.seq2 ?_
            refine XC.condF rfl (rfl) ?_
            refine XC.skip ?_
            refine XC.seq2 ?_
            refine XC.seq ?_
            refine XC.seq ?_
            refine XC.region ?_
            refine XO.fieldAddr rfl fa_24_3 rfl ?_
            refine XO.loadO 1 rfl rfl ty_22 rfl rfl rfl ?_
            refine XO.lenS (ts := #[]) rfl Try.underlying22 rfl ?_
            refine XO.move rfl rfl ?_
            refine XO.nil ?_
            refine XC.seq2 ?_
            refine XC.block ?_
            refine XC.keep [2, 57, 55, 56] rfl ?_
            refine XC.loop (base := [(55, _), (56, _)]) (fun ζ : Nat => [(2, .int .i64 ((depthL (l.take ζ) : Nat) : Int)), (57, .int .i64 (ζ : Nat))]) (fun ζ Hl own => ζ ≤ l.length ∧ rest = own ∧ (formedL (l.take ζ) = true)) (fun ζ => l.length - ζ) 0 (prov_cons (rfl) (prov_cons (rfl) (prov_cons (rfl) (prov_cons (rfl) prov_nil)))) (by repeat (first | exact List.Sublist.refl _ | apply List.Sublist.cons_cons | apply List.Sublist.cons)) ⟨Nat.zero_le _, rfl, rfl⟩ ?_
            rintro i Hl0 _ hle0 ⟨hki, rfl, hfo⟩
            replace hs := hs.mono hle0
            try dsimp only at ⊢
            refine XC.seq ?_
            refine XC.region ?_
            refine XO.lss rfl rfl rfl ?_
            refine XO.nil ?_
            refine XC.seq2 ?_
            refine XC.seq ?_
            refine XC.cond rfl (fun c2_14 => ?_) (fun c2_14 => ?_)
            · refine XC.skip ?_
              refine XC.seq2 ?_
              refine XC.seq ?_
              refine XC.block ?_
              refine XC.seq ?_
              refine XC.region ?_
              refine XO.indexN rfl hs rfl Try.underlying22 ty_24 (by omega) rfl ?_
              rintro eb59 eo59 _ x59 hx59 hR59 hp59
              obtain ⟨k59, n59, s59, l59⟩ := x59
              obtain ⟨a59, c59, rfl, hd59⟩ := valR_iff.1 hR59
              refine XO.loadH rfl (by assumption) ty_24 rfl rfl rfl ?_
              refine XO.alloc ze_24 rfl (fun b6 => ?_)
              refine XO.storeO 0 rfl rfl rfl rfl ty_24 rfl rfl rfl rfl rfl ?_
              refine XO.nil ?_
              refine XC.seq2 ?_
              refine XC.seq ?_
              refine XC.region ?_
              have hwx := wsz_mem (List.mem_of_getElem? hx59)
              have hwt := wsz_take (l := l) i
              refine XO.loadO 0 rfl rfl ty_24 rfl rfl rfl ?_
              have hcall16 := ih (wszV (.mk k59 n59 s59 l59)) (by omega) k59 n59 s59 l59 a59 c59 _ (Nat.le_refl _) (by omega) hd59
              refine XO.callV rfl hcall16 rfl ?_
              refine XO.move rfl rfl ?_
              refine XO.extract rfl rfl rfl ?_
              refine XO.extract rfl rfl rfl ?_
              refine XO.assign rfl rfl ?_
              refine XO.assign rfl rfl ?_
              refine XO.nil ?_
              refine XC.seq2 ?_
              refine XC.seq ?_
              refine XC.seq ?_
              refine XC.region ?_
              refine XO.move rfl rfl ?_
              refine XO.notB rfl rfl ?_
              refine XO.nil ?_
              refine XC.seq2 ?_
              refine XC.condB rfl (fun c3_17 => ?_) (fun c3_17 => ?_)
              · refine XC.seq ?_
                refine XC.region ?_
                refine XO.assign rfl rfl ?_
                refine XO.assign rfl rfl ?_
                refine XO.nil ?_
                refine XC.seq2 ?_
                refine XC.ret ?_
                refine seqX_ret ?_
                refine blockR ?_
                refine seqX_ret ?_
                refine loopX_ret ?_
                refine blockR ?_
                refine seqX_ret ?_
                refine ⟨rfl, _, [], rfl, (by repeat (first | exact List.Sublist.refl _ | apply List.Sublist.cons)), RetR.mk ?_⟩
                exact fd_no (bfalse fun h => by have h9 := formedL_iff.1 (formed3.1 h).2 _ (List.mem_of_getElem? hx59); simp_all)
              · have hfx : formedB (.mk k59 n59 s59 l59) = true := by simpa using c3_17
                refine XC.skip ?_
                refine XC.seq2 ?_
                refine XC.region ?_
                refine XO.move rfl rfl ?_
                refine XO.move rfl rfl ?_
                refine XO.maxI (c := ((depthL (l.take (i + 1)) : Nat) : Int)) rfl rfl (by rw [dl_max hx59]; unfold fdV; rw [if_pos hfx]; split <;> omega) rfl ?_
                refine XO.assign rfl rfl ?_
                refine XO.nil ?_
                refine blockN ?_
                refine XC.seq2 ?_
                refine XC.region ?_
                refine XO.add rfl rfl (wrap_i64 (by omega) (by omega)) rfl ?_
                refine XO.move rfl rfl ?_
                refine XO.nil ?_
                refine loop_next (i + 1) (by show l.length - (i + 1) < l.length - i; omega) (prov_cons (rfl) (prov_cons (rfl) (prov_cons (rfl) (prov_cons (rfl) prov_nil)))) (⟨by show i + 1 ≤ l.length; omega, rfl, fl_yes hx59 hfo (by simp_all)⟩) (by repeat (first | exact List.Sublist.refl _ | apply List.Sublist.cons_cons | apply List.Sublist.cons)) (hle0)
            · obtain rfl : i = l.length := by omega
              rw [List.take_length] at hfo ⊢
              have hdw := depthL_wsz (l := l) (fun x _ => depth_wsz x)
              refine XC.exit ?_
              refine seqX_exit ?_
              refine loopX_exit ?_
              refine blockHit rfl ?_
              refine XC.seq2 ?_
              refine XC.seq ?_
              refine XC.region ?_
              refine XO.move rfl rfl ?_
              refine XO.add rfl rfl (wrap_i64 (by omega) (by omega)) rfl ?_
              refine XO.assign rfl rfl ?_
              refine XO.assign rfl rfl ?_
              refine XO.nil ?_
              refine XC.seq2 ?_
              refine XC.ret ?_
              refine ⟨rfl, _, [], rfl, (by repeat (first | exact List.Sublist.refl _ | apply List.Sublist.cons)), RetR.mk ?_⟩
              exact fd_yes (formed3.2 ⟨h3.1 (by simp_all), hfo⟩) (by rw [depthV, if_pos rfl]; omega)
      · have g10p := of_decide_eq_true g10
        refine XO.guardF rfl rfl (g10) rfl rfl ?_
        refine XO.guardF rfl rfl (g10) rfl rfl ?_
        refine XO.guardF rfl rfl (g10) rfl rfl ?_
        refine XO.guardF rfl rfl (g10) rfl rfl ?_
        refine XO.pickT rfl (g10) rfl rfl ?_
        refine XO.nil ?_
        refine XC.seq2 ?_
        refine XC.condT rfl (rfl) ?_
        refine XC.seq ?_
        refine XC.region ?_
        refine XO.assign rfl rfl ?_
        refine XO.assign rfl rfl ?_
        refine XO.nil ?_
        refine XC.seq2 ?_
        refine XC.ret ?_
        refine seqX_ret ?_
        refine ⟨rfl, _, [], rfl, (by repeat (first | exact List.Sublist.refl _ | apply List.Sublist.cons)), RetR.mk ?_⟩
        exact fd_no (formed0 (by omega))
    · have g9p := of_decide_eq_true g9
      refine XO.guardF rfl rfl (g9) rfl rfl ?_
      refine XO.guardF rfl rfl (g9) rfl rfl ?_
      refine XO.pickT rfl (g9) rfl rfl ?_
      refine XO.move rfl rfl ?_
      refine XO.guardF rfl rfl (rfl) rfl rfl ?_
      refine XO.guardF rfl rfl (rfl) rfl rfl ?_
      refine XO.guardF rfl rfl (rfl) rfl rfl ?_
      refine XO.guardF rfl rfl (rfl) rfl rfl ?_
      refine XO.guardF rfl rfl (rfl) rfl rfl ?_
      refine XO.pickT rfl (rfl) rfl rfl ?_
      refine XO.nil ?_
      refine XC.seq2 ?_
      refine XC.condT rfl (rfl) ?_
      refine XC.seq ?_
      refine XC.region ?_
      refine XO.assign rfl rfl ?_
      refine XO.assign rfl rfl ?_
      refine XO.nil ?_
      refine XC.seq2 ?_
      refine XC.ret ?_
      refine seqX_ret ?_
      refine ⟨rfl, _, [], rfl, (by repeat (first | exact List.Sublist.refl _ | apply List.Sublist.cons)), RetR.mk ?_⟩
      exact fd_no (formed0 (by omega))

theorem check_fn (k n : Int) (s : List UInt8) (l : List Val) (a : Option Addr) (c : Nat) (H : Hp) (hw : wszV (.mk k n s l) ≤ 1000000) (hs : SlR valR H a c l) : FnC Try.prog 16 #[.agg ⟨[.int .i64 k, .int .i64 n, .string (bsOf s), .slice a l.length c]⟩] H [] (RetR (fun v _ _ => v = .int .i64 (chkV (.mk k n s l)))) := by
  refine FnC.intro (args := [.agg ⟨[.int .i64 k, .int .i64 n, .string (bsOf s), .slice a l.length c]⟩]) Try.func16 rfl rfl Try.ntmps16 rfl rfl rfl fun G rest => ?_
  refine XC.seq ?_
  refine XC.region ?_
  refine XO.box rfl rfl rfl (fun b1 => ?_)
  refine XO.assign rfl rfl ?_
  refine XO.nil ?_
  refine XC.seq2 ?_
  refine XC.seq ?_
  refine XC.region ?_
  refine XO.loadO 0 rfl rfl ty_24 rfl rfl rfl ?_
  have hcall := formed_all 1000000 k n s l a c _ hw (Nat.le_refl _) hs
  refine XO.callV rfl hcall rfl ?_
  refine XO.move rfl rfl ?_
  refine XO.extract rfl rfl rfl ?_
  refine XO.extract rfl rfl rfl ?_
  refine XO.assign rfl rfl ?_
  refine XO.assign rfl rfl ?_
  refine XO.nil ?_
  refine XC.seq2 ?_
  refine XC.seq ?_
  refine XC.block ?_
  refine XC.seq ?_
  refine XC.region ?_
  refine XO.move rfl rfl ?_
  refine XO.notB rfl rfl ?_
  refine XO.assign rfl rfl ?_
  refine XO.nil ?_
  refine XC.seq2 ?_
  refine XC.condB rfl (fun c0_2 => ?_) (fun c0_2 => ?_)
  · have hf : formedB (.mk k n s l) = false := by simpa using c0_2
    refine XC.seq ?_
    refine XC.region ?_
    refine XO.assign rfl rfl ?_
    refine XO.nil ?_
    refine XC.seq2 ?_
    refine XC.ret ?_
    refine blockR ?_
    refine seqX_ret ?_
    refine ⟨rfl, _, [], rfl, (by repeat (first | exact List.Sublist.refl _ | apply List.Sublist.cons)), RetR.mk ?_⟩
    exact congrArg (Value.int .i64) (chk_1 hf).symm
  · have hf : formedB (.mk k n s l) = true := by simpa using c0_2
    have hfd := fd_eq hf
    refine XC.seq ?_
    refine XC.region ?_
    refine XO.move rfl rfl ?_
    refine XO.gtr rfl rfl rfl ?_
    refine XO.assign rfl rfl ?_
    refine XO.nil ?_
    refine XC.seq2 ?_
    refine XC.cond rfl (fun c1_3 => ?_) (fun c1_3 => ?_)
    · refine XC.seq ?_
      refine XC.region ?_
      refine XO.assign rfl rfl ?_
      refine XO.nil ?_
      refine XC.seq2 ?_
      refine XC.ret ?_
      refine blockR ?_
      refine seqX_ret ?_
      refine ⟨rfl, _, [], rfl, (by repeat (first | exact List.Sublist.refl _ | apply List.Sublist.cons)), RetR.mk ?_⟩
      exact congrArg (Value.int .i64) (chk_2 hf (by omega)).symm
    · refine XC.skip ?_
      refine blockN ?_
      refine XC.seq2 ?_
      refine XC.seq ?_
      refine XC.region ?_
      refine XO.assign rfl rfl ?_
      refine XO.nil ?_
      refine XC.seq2 ?_
      refine XC.ret ?_
      refine ⟨rfl, _, [], rfl, (by repeat (first | exact List.Sublist.refl _ | apply List.Sublist.cons)), RetR.mk ?_⟩
      exact congrArg (Value.int .i64) (chk_0 hf (by omega)).symm

theorem rformed_all : ∀ (m : Nat) (k n : Int) (s : List UInt8) (l : List Val) (a : Option Addr) (c : Nat) (H : Hp), wszV (.mk k n s l) ≤ m → m ≤ 1000000 → SlR valR H a c l → FnC Try.prog 29 #[.agg ⟨[.int .i64 k, .int .i64 n, .string (bsOf s), .slice a l.length c]⟩] H [] (RetR (fun v _ _ => v = .bool (formedB (.mk k n s l)))) := by
  intro m
  refine Nat.strongRecOn m ?_
  clear m
  intro m ih k n s l a c H hw hm hs
  have hwl := wsz_len (l := l)
  rw [wszV] at hw
  refine FnC.intro (args := [.agg ⟨[.int .i64 k, .int .i64 n, .string (bsOf s), .slice a l.length c]⟩]) Try.func29 rfl rfl Try.ntmps29 rfl rfl rfl fun G rest => ?_
  refine XC.seq ?_
  refine XC.region ?_
  refine XO.box rfl rfl rfl (fun b1 => ?_)
  refine XO.assign rfl rfl ?_
  refine XO.nil ?_
  refine XC.seq2 ?_
  refine XC.seq ?_
  refine XC.seq ?_
  refine XC.region ?_
  refine XO.fieldAddr rfl fa_24_0 rfl ?_
  refine XO.loadO 0 rfl rfl ty_3 rfl rfl rfl ?_
  refine XO.nil ?_
  refine XC.seq2 ?_
  refine XC.block ?_
  refine XC.seq ?_
  refine XC.region ?_
  refine XO.eql rfl rfl rfl ?_
  refine XO.assign rfl rfl ?_
  refine XO.nil ?_
  refine XC.seq2 ?_
  refine XC.cond rfl (fun c0_1 => ?_) (fun c0_1 => ?_)
  · obtain rfl : k = 1 := by omega
    refine XC.seq ?_
    refine XC.region ?_
    refine XO.fieldAddr rfl fa_24_2 rfl ?_
    refine XO.loadO 0 rfl rfl ty_9 rfl rfl rfl ?_
    refine XO.eqlS rfl rfl rfl ?_
    refine XO.move rfl rfl ?_
    refine XO.guardC rfl rfl rfl rfl (fun g2 => ?_) (fun g2 => ?_)
    · have g2p := of_decide_eq_true g2
      refine XO.fieldAddr rfl fa_24_3 rfl ?_
      refine XO.guardT rfl rfl (g2) rfl ?_
      refine XO.loadO 0 rfl rfl ty_22 rfl rfl rfl ?_
      refine XO.guardT rfl rfl (g2) rfl ?_
      refine XO.lenS (ts := #[]) rfl Try.underlying22 rfl ?_
      refine XO.guardT rfl rfl (g2) rfl ?_
      refine XO.eql rfl rfl rfl ?_
      refine XO.pickT rfl (g2) rfl rfl ?_
      refine XO.assign rfl rfl ?_
      refine XO.nil ?_
      refine XC.seq2 ?_
      refine XC.ret ?_
      refine blockR ?_
      refine seqX_ret ?_
      refine ⟨rfl, _, [], rfl, (by repeat (first | exact List.Sublist.refl _ | apply List.Sublist.cons)), RetR.mk ?_⟩
      first | exact congrArg Value.bool (Bool.eq_iff_iff.2 (by rw [formed1]; simp_all)) | exact congrArg Value.bool (bfalse (by rw [formed1]; simp_all)).symm
    · have g2p := of_decide_eq_false g2
      refine XO.guardF rfl rfl (g2) rfl rfl ?_
      refine XO.guardF rfl rfl (g2) rfl rfl ?_
      refine XO.guardF rfl rfl (g2) rfl rfl ?_
      refine XO.pickF rfl (g2) rfl rfl ?_
      refine XO.assign rfl rfl ?_
      refine XO.nil ?_
      refine XC.seq2 ?_
      refine XC.ret ?_
      refine blockR ?_
      refine seqX_ret ?_
      refine ⟨rfl, _, [], rfl, (by repeat (first | exact List.Sublist.refl _ | apply List.Sublist.cons)), RetR.mk ?_⟩
      first | exact congrArg Value.bool (Bool.eq_iff_iff.2 (by rw [formed1]; simp_all)) | exact congrArg Value.bool (bfalse (by rw [formed1]; simp_all)).symm
  · refine XC.seq ?_
    refine XC.region ?_
    refine XO.eql rfl rfl rfl ?_
    refine XO.assign rfl rfl ?_
    refine XO.nil ?_
    refine XC.seq2 ?_
    refine XC.cond rfl (fun c1_3 => ?_) (fun c1_3 => ?_)
    · obtain rfl : k = 2 := by omega
      refine XC.seq ?_
      refine XC.region ?_
      refine XO.fieldAddr rfl fa_24_1 rfl ?_
      refine XO.loadO 0 rfl rfl ty_3 rfl rfl rfl ?_
      refine XO.eql rfl rfl rfl ?_
      refine XO.move rfl rfl ?_
      refine XO.guardC rfl rfl rfl rfl (fun g4 => ?_) (fun g4 => ?_)
      · have g4p := of_decide_eq_true g4
        refine XO.fieldAddr rfl fa_24_3 rfl ?_
        refine XO.guardT rfl rfl (g4) rfl ?_
        refine XO.loadO 0 rfl rfl ty_22 rfl rfl rfl ?_
        refine XO.guardT rfl rfl (g4) rfl ?_
        refine XO.lenS (ts := #[]) rfl Try.underlying22 rfl ?_
        refine XO.guardT rfl rfl (g4) rfl ?_
        refine XO.eql rfl rfl rfl ?_
        refine XO.pickT rfl (g4) rfl rfl ?_
        refine XO.assign rfl rfl ?_
        refine XO.nil ?_
        refine XC.seq2 ?_
        refine XC.ret ?_
        refine blockR ?_
        refine seqX_ret ?_
        refine ⟨rfl, _, [], rfl, (by repeat (first | exact List.Sublist.refl _ | apply List.Sublist.cons)), RetR.mk ?_⟩
        first | exact congrArg Value.bool (Bool.eq_iff_iff.2 (by rw [formed2]; simp_all)) | exact congrArg Value.bool (bfalse (by rw [formed2]; simp_all)).symm
      · have g4p := of_decide_eq_false g4
        refine XO.guardF rfl rfl (g4) rfl rfl ?_
        refine XO.guardF rfl rfl (g4) rfl rfl ?_
        refine XO.guardF rfl rfl (g4) rfl rfl ?_
        refine XO.pickF rfl (g4) rfl rfl ?_
        refine XO.assign rfl rfl ?_
        refine XO.nil ?_
        refine XC.seq2 ?_
        refine XC.ret ?_
        refine blockR ?_
        refine seqX_ret ?_
        refine ⟨rfl, _, [], rfl, (by repeat (first | exact List.Sublist.refl _ | apply List.Sublist.cons)), RetR.mk ?_⟩
        first | exact congrArg Value.bool (Bool.eq_iff_iff.2 (by rw [formed2]; simp_all)) | exact congrArg Value.bool (bfalse (by rw [formed2]; simp_all)).symm
    · refine XC.seq ?_
      refine XC.region ?_
      refine XO.eql rfl rfl rfl ?_
      refine XO.assign rfl rfl ?_
      refine XO.nil ?_
      refine XC.seq2 ?_
      refine XC.cond rfl (fun c2_5 => ?_) (fun c2_5 => ?_)
      · obtain rfl : k = 3 := by omega
        refine XC.seq ?_
        refine XC.seq ?_
        refine XC.region ?_
        refine XO.assign rfl rfl ?_
        refine XO.nil ?_
        refine XC.seq2 ?_
        refine XC.block ?_
        refine XC.keep [3, 1] rfl ?_
        refine XC.loop (base := [(1, _)]) (fun ζ : Nat => [(3, .int .i64 (ζ : Nat))]) (fun ζ Hl own => ζ ≤ l.length ∧ (b1, .cells 24 [.int .i64 3, .int .i64 n, .string (bsOf s), .slice a l.length c]) :: rest = own ∧ (formedL (l.take ζ) = true)) (fun ζ => l.length - ζ) 0 (prov_cons (rfl) (prov_cons (rfl) prov_nil)) (by repeat (first | exact List.Sublist.refl _ | apply List.Sublist.cons_cons | apply List.Sublist.cons)) ⟨Nat.zero_le _, rfl, rfl⟩ ?_
        rintro i Hl0 _ hle0 ⟨hki, rfl, hfo⟩
        replace hs := hs.mono hle0
        try dsimp only at ⊢
        refine XC.seq ?_
        refine XC.seq ?_
        refine XC.region ?_
        refine XO.move rfl rfl ?_
        refine XO.fieldAddr rfl fa_24_3 rfl ?_
        refine XO.loadO 0 rfl rfl ty_22 rfl rfl rfl ?_
        refine XO.lenS (ts := #[]) rfl Try.underlying22 rfl ?_
        refine XO.lss rfl rfl rfl ?_
        refine XO.nil ?_
        refine XC.seq2 ?_
        refine XC.cond rfl (fun c3_6 => ?_) (fun c3_6 => ?_)
        · refine XC.skip ?_
          refine XC.seq2 ?_
          refine XC.seq ?_
          refine XC.block ?_
          refine XC.seq ?_
          refine XC.region ?_
          refine XO.fieldAddr rfl fa_24_3 rfl ?_
          refine XO.loadO 0 rfl rfl ty_22 rfl rfl rfl ?_
          refine XO.move rfl rfl ?_
          refine XO.indexN rfl hs rfl Try.underlying22 ty_24 (by omega) rfl ?_
          rintro eb40 eo40 _ x40 hx40 hR40 hp40
          obtain ⟨k40, n40, s40, l40⟩ := x40
          obtain ⟨a40, c40, rfl, hd40⟩ := valR_iff.1 hR40
          refine XO.loadH rfl (by assumption) ty_24 rfl rfl rfl ?_
          have hwx := wsz_mem (List.mem_of_getElem? hx40)
          have hcall := ih (wszV (.mk k40 n40 s40 l40)) (by omega) k40 n40 s40 l40 a40 c40 _ (Nat.le_refl _) (by omega) hd40
          refine XO.callV rfl hcall rfl ?_
          refine XO.notB rfl rfl ?_
          refine XO.nil ?_
          refine XC.seq2 ?_
          refine XC.condB rfl (fun c4_9 => ?_) (fun c4_9 => ?_)
          · refine XC.seq ?_
            refine XC.region ?_
            refine XO.assign rfl rfl ?_
            refine XO.nil ?_
            refine XC.seq2 ?_
            refine XC.ret ?_
            refine blockR ?_
            refine seqX_ret ?_
            refine loopX_ret ?_
            refine blockR ?_
            refine seqX_ret ?_
            refine blockR ?_
            refine seqX_ret ?_
            refine ⟨rfl, _, [], rfl, (by repeat (first | exact List.Sublist.refl _ | apply List.Sublist.cons)), RetR.mk ?_⟩
            exact congrArg Value.bool (bfalse fun h => by have h9 := formedL_iff.1 (formed3.1 h).2 _ (List.mem_of_getElem? hx40); simp_all).symm
          · refine XC.skip ?_
            refine blockN ?_
            refine XC.seq2 ?_
            refine XC.region ?_
            refine XO.move rfl rfl ?_
            refine XO.add rfl rfl (wrap_i64 (by omega) (by omega)) rfl ?_
            refine XO.assign rfl rfl ?_
            refine XO.nil ?_
            refine loop_next (i + 1) (by show l.length - (i + 1) < l.length - i; omega) (prov_cons (rfl) (prov_cons (rfl) prov_nil)) (⟨by show i + 1 ≤ l.length; omega, rfl, fl_yes hx40 hfo (by simp_all)⟩) (by repeat (first | exact List.Sublist.refl _ | apply List.Sublist.cons_cons | apply List.Sublist.cons)) (hle0)
        · obtain rfl : i = l.length := by omega
          rw [List.take_length] at hfo
          refine XC.exit ?_
          refine seqX_exit ?_
          refine loopX_exit ?_
          refine blockHit rfl ?_
          refine XC.seq2 ?_
          refine XC.seq ?_
          refine XC.region ?_
          refine XO.fieldAddr rfl fa_24_1 rfl ?_
          refine XO.loadO 0 rfl rfl ty_3 rfl rfl rfl ?_
          refine XO.eql rfl rfl rfl ?_
          refine XO.move rfl rfl ?_
          refine XO.guardC rfl rfl rfl rfl (fun g10 => ?_) (fun g10 => ?_)
          · have g10p := of_decide_eq_true g10
            refine XO.fieldAddr rfl fa_24_2 rfl ?_
            refine XO.guardT rfl rfl (g10) rfl ?_
            refine XO.loadO 0 rfl rfl ty_9 rfl rfl rfl ?_
            refine XO.guardT rfl rfl (g10) rfl ?_
            refine XO.eqlS rfl rfl rfl ?_
            refine XO.pickT rfl (g10) rfl rfl ?_
            refine XO.assign rfl rfl ?_
            refine XO.nil ?_
            refine XC.seq2 ?_
            refine XC.ret ?_
            refine blockR ?_
            refine seqX_ret ?_
            refine ⟨rfl, _, [], rfl, (by repeat (first | exact List.Sublist.refl _ | apply List.Sublist.cons)), RetR.mk ?_⟩
            first | exact congrArg Value.bool (Bool.eq_iff_iff.2 (by rw [formed3]; simp_all)) | exact congrArg Value.bool (bfalse (by rw [formed3]; simp_all)).symm
          · have g10p := of_decide_eq_false g10
            refine XO.guardF rfl rfl (g10) rfl rfl ?_
            refine XO.guardF rfl rfl (g10) rfl rfl ?_
            refine XO.pickF rfl (g10) rfl rfl ?_
            refine XO.assign rfl rfl ?_
            refine XO.nil ?_
            refine XC.seq2 ?_
            refine XC.ret ?_
            refine blockR ?_
            refine seqX_ret ?_
            refine ⟨rfl, _, [], rfl, (by repeat (first | exact List.Sublist.refl _ | apply List.Sublist.cons)), RetR.mk ?_⟩
            first | exact congrArg Value.bool (Bool.eq_iff_iff.2 (by rw [formed3]; simp_all)) | exact congrArg Value.bool (bfalse (by rw [formed3]; simp_all)).symm
      · refine XC.skip ?_
        refine blockN ?_
        refine XC.seq2 ?_
        refine XC.seq ?_
        refine XC.region ?_
        refine XO.assign rfl rfl ?_
        refine XO.nil ?_
        refine XC.seq2 ?_
        refine XC.ret ?_
        refine ⟨rfl, _, [], rfl, (by repeat (first | exact List.Sublist.refl _ | apply List.Sublist.cons)), RetR.mk ?_⟩
        exact congrArg Value.bool (formed0 ⟨by omega, by omega, by omega⟩).symm

theorem depth_all : ∀ (m : Nat) (k n : Int) (s : List UInt8) (l : List Val) (a : Option Addr) (c : Nat) (H : Hp), wszV (.mk k n s l) ≤ m → m ≤ 1000000 → SlR valR H a c l → FnC Try.prog 30 #[.agg ⟨[.int .i64 k, .int .i64 n, .string (bsOf s), .slice a l.length c]⟩] H [] (RetR (fun v _ _ => v = .int .i64 (depthV (.mk k n s l) : Nat))) := by
  intro m
  refine Nat.strongRecOn m ?_
  clear m
  intro m ih k n s l a c H hw hm hs
  have hwl := wsz_len (l := l)
  rw [wszV] at hw
  refine FnC.intro (args := [.agg ⟨[.int .i64 k, .int .i64 n, .string (bsOf s), .slice a l.length c]⟩]) Try.func30 rfl rfl Try.ntmps30 rfl rfl rfl fun G rest => ?_
  refine XC.seq ?_
  refine XC.region ?_
  refine XO.box rfl rfl rfl (fun b1 => ?_)
  refine XO.assign rfl rfl ?_
  refine XO.nil ?_
  refine XC.seq2 ?_
  refine XC.seq ?_
  refine XC.seq ?_
  refine XC.region ?_
  refine XO.fieldAddr rfl fa_24_0 rfl ?_
  refine XO.loadO 0 rfl rfl ty_3 rfl rfl rfl ?_
  refine XO.neq rfl rfl rfl ?_
  refine XO.nil ?_
  refine XC.seq2 ?_
  refine XC.cond rfl (fun c0_1 => ?_) (fun c0_1 => ?_)
  · refine XC.seq ?_
    refine XC.region ?_
    refine XO.assign rfl rfl ?_
    refine XO.nil ?_
    refine XC.seq2 ?_
    refine XC.ret ?_
    refine seqX_ret ?_
    refine ⟨rfl, _, [], rfl, (by repeat (first | exact List.Sublist.refl _ | apply List.Sublist.cons)), RetR.mk ?_⟩
    exact congrArg (Value.int .i64) (by rw [depthV, if_neg (by omega)]; rfl)
  · obtain rfl : k = 3 := by omega
    refine XC.skip ?_
    refine XC.seq2 ?_
    refine XC.seq ?_
    refine XC.region ?_
    refine XO.assign rfl rfl ?_
    refine XO.nil ?_
    refine XC.seq2 ?_
    refine XC.seq ?_
    refine XC.seq ?_
    refine XC.region ?_
    refine XO.assign rfl rfl ?_
    refine XO.nil ?_
    refine XC.seq2 ?_
    refine XC.block ?_
    refine XC.keep [3, 4, 1] rfl ?_
    refine XC.loop (base := [(1, _)]) (fun ζ : Nat => [(3, .int .i64 ((depthL (l.take ζ) : Nat) : Int)), (4, .int .i64 (ζ : Nat))]) (fun ζ Hl own => ζ ≤ l.length ∧ (b1, .cells 24 [.int .i64 3, .int .i64 n, .string (bsOf s), .slice a l.length c]) :: rest = own) (fun ζ => l.length - ζ) 0 (prov_cons (rfl) (prov_cons (rfl) (prov_cons (rfl) prov_nil))) (by repeat (first | exact List.Sublist.refl _ | apply List.Sublist.cons_cons | apply List.Sublist.cons)) ⟨Nat.zero_le _, rfl⟩ ?_
    rintro i Hl0 _ hle0 ⟨hki, rfl⟩
    replace hs := hs.mono hle0
    try dsimp only at ⊢
    refine XC.seq ?_
    refine XC.seq ?_
    refine XC.region ?_
    refine XO.move rfl rfl ?_
    refine XO.fieldAddr rfl fa_24_3 rfl ?_
    refine XO.loadO 0 rfl rfl ty_22 rfl rfl rfl ?_
    refine XO.lenS (ts := #[]) rfl Try.underlying22 rfl ?_
    refine XO.lss rfl rfl rfl ?_
    refine XO.nil ?_
    refine XC.seq2 ?_
    refine XC.cond rfl (fun c1_2 => ?_) (fun c1_2 => ?_)
    · refine XC.skip ?_
      refine XC.seq2 ?_
      refine XC.seq ?_
      refine XC.block ?_
      refine XC.region ?_
      refine XO.move rfl rfl ?_
      refine XO.fieldAddr rfl fa_24_3 rfl ?_
      refine XO.loadO 0 rfl rfl ty_22 rfl rfl rfl ?_
      refine XO.move rfl rfl ?_
      refine XO.indexN rfl hs rfl Try.underlying22 ty_24 (by omega) rfl ?_
      rintro eb19 eo19 _ x19 hx19 hR19 hp19
      obtain ⟨k19, n19, s19, l19⟩ := x19
      obtain ⟨a19, c19, rfl, hd19⟩ := valR_iff.1 hR19
      refine XO.loadH rfl (by assumption) ty_24 rfl rfl rfl ?_
      have hwx := wsz_mem (List.mem_of_getElem? hx19)
      have hcall := ih (wszV (.mk k19 n19 s19 l19)) (by omega) k19 n19 s19 l19 a19 c19 _ (Nat.le_refl _) (by omega) hd19
      refine XO.callV rfl hcall rfl ?_
      refine XO.maxI (c := ((depthL (l.take (i + 1)) : Nat) : Int)) rfl rfl (by rw [dl_max hx19]; split <;> omega) rfl ?_
      refine XO.assign rfl rfl ?_
      refine XO.nil ?_
      refine blockN ?_
      refine XC.seq2 ?_
      refine XC.region ?_
      refine XO.move rfl rfl ?_
      refine XO.add rfl rfl (wrap_i64 (by omega) (by omega)) rfl ?_
      refine XO.assign rfl rfl ?_
      refine XO.nil ?_
      refine loop_next (i + 1) (by show l.length - (i + 1) < l.length - i; omega) (prov_cons (rfl) (prov_cons (rfl) (prov_cons (rfl) prov_nil))) (⟨by show i + 1 ≤ l.length; omega, rfl⟩) (by repeat (first | exact List.Sublist.refl _ | apply List.Sublist.cons_cons | apply List.Sublist.cons)) (hle0)
    · obtain rfl : i = l.length := by omega
      rw [List.take_length]
      have hdw := depthL_wsz (l := l) (fun x _ => depth_wsz x)
      refine XC.exit ?_
      refine seqX_exit ?_
      refine loopX_exit ?_
      refine blockHit rfl ?_
      refine XC.seq2 ?_
      refine XC.seq ?_
      refine XC.region ?_
      refine XO.move rfl rfl ?_
      refine XO.add rfl rfl (wrap_i64 (by omega) (by omega)) rfl ?_
      refine XO.assign rfl rfl ?_
      refine XO.nil ?_
      refine XC.seq2 ?_
      refine XC.ret ?_
      refine ⟨rfl, _, [], rfl, (by repeat (first | exact List.Sublist.refl _ | apply List.Sublist.cons)), RetR.mk ?_⟩
      exact congrArg (Value.int .i64) (by rw [depthV, if_pos rfl]; omega)

theorem rcheck_fn (k n : Int) (s : List UInt8) (l : List Val) (a : Option Addr) (c : Nat) (H : Hp) (hw : wszV (.mk k n s l) ≤ 1000000) (hs : SlR valR H a c l) : FnC Try.prog 17 #[.agg ⟨[.int .i64 k, .int .i64 n, .string (bsOf s), .slice a l.length c]⟩] H [] (RetR (fun v _ _ => v = .int .i64 (chkV (.mk k n s l)))) := by
  refine FnC.intro (args := [.agg ⟨[.int .i64 k, .int .i64 n, .string (bsOf s), .slice a l.length c]⟩]) Try.func17 rfl rfl Try.ntmps17 rfl rfl rfl fun G rest => ?_
  refine XC.seq ?_
  refine XC.region ?_
  refine XO.box rfl rfl rfl (fun b1 => ?_)
  refine XO.assign rfl rfl ?_
  refine XO.nil ?_
  refine XC.seq2 ?_
  refine XC.seq ?_
  refine XC.seq ?_
  refine XC.region ?_
  refine XO.loadO 0 rfl rfl ty_24 rfl rfl rfl ?_
  have hcall := rformed_all 1000000 k n s l a c _ hw (Nat.le_refl _) hs
  refine XO.callV rfl hcall rfl ?_
  refine XO.notB rfl rfl ?_
  refine XO.nil ?_
  refine XC.seq2 ?_
  refine XC.condB rfl (fun c0_2 => ?_) (fun c0_2 => ?_)
  · have hf : formedB (.mk k n s l) = false := by simpa using c0_2
    refine XC.seq ?_
    refine XC.region ?_
    refine XO.assign rfl rfl ?_
    refine XO.nil ?_
    refine XC.seq2 ?_
    refine XC.ret ?_
    refine seqX_ret ?_
    refine ⟨rfl, _, [], rfl, (by repeat (first | exact List.Sublist.refl _ | apply List.Sublist.cons)), RetR.mk ?_⟩
    exact congrArg (Value.int .i64) (chk_1 hf).symm
  · have hf : formedB (.mk k n s l) = true := by simpa using c0_2
    refine XC.skip ?_
    refine XC.seq2 ?_
    refine XC.seq ?_
    refine XC.seq ?_
    refine XC.region ?_
    refine XO.loadO 0 rfl rfl ty_24 rfl rfl rfl ?_
    have hcall := depth_all 1000000 k n s l a c _ hw (Nat.le_refl _) hs
    refine XO.callV rfl hcall rfl ?_
    refine XO.gtr rfl rfl rfl ?_
    refine XO.nil ?_
    refine XC.seq2 ?_
    refine XC.cond rfl (fun c1_4 => ?_) (fun c1_4 => ?_)
    · refine XC.seq ?_
      refine XC.region ?_
      refine XO.assign rfl rfl ?_
      refine XO.nil ?_
      refine XC.seq2 ?_
      refine XC.ret ?_
      refine seqX_ret ?_
      refine ⟨rfl, _, [], rfl, (by repeat (first | exact List.Sublist.refl _ | apply List.Sublist.cons)), RetR.mk ?_⟩
      exact congrArg (Value.int .i64) (chk_2 hf (by omega)).symm
    · refine XC.skip ?_
      refine XC.seq2 ?_
      refine XC.seq ?_
      refine XC.region ?_
      refine XO.assign rfl rfl ?_
      refine XO.nil ?_
      refine XC.seq2 ?_
      refine XC.ret ?_
      refine ⟨rfl, _, [], rfl, (by repeat (first | exact List.Sublist.refl _ | apply List.Sublist.cons)), RetR.mk ?_⟩
      exact congrArg (Value.int .i64) (chk_0 hf (by omega)).symm

theorem uns_fn (n : Int) (hn : -9223372036854775808 ≤ n ∧ n ≤ 9223372036854775807) (H : Hp) : FnC Try.prog 39 #[.int .i64 n] H [] (RetR (fun v _ _ => v = .int .u64 (unsV n : Nat))) := by
  refine FnC.intro (args := [.int .i64 n]) Try.func39 rfl rfl Try.ntmps39 rfl rfl rfl fun G rest => ?_
  refine XC.seq ?_
  refine XC.region ?_
  refine XO.assign rfl rfl ?_
  refine XO.nil ?_
  refine XC.seq2 ?_
  refine XC.seq ?_
  refine XC.region ?_
  refine XO.move rfl rfl ?_
  refine XO.convI rfl Try.underlying3 Try.underlying68 (wrap_u64_mod _) rfl ?_
  refine XO.shl rfl rfl (by omega) rfl ?_
  refine XO.move rfl rfl ?_
  refine XO.shr rfl rfl (by omega) rfl ?_
  refine XO.convI rfl Try.underlying3 Try.underlying68 rfl rfl ?_
  refine XO.bxor rfl rfl rfl ?_
  refine XO.assign rfl rfl ?_
  refine XO.nil ?_
  refine XC.seq2 ?_
  refine XC.ret ?_
  refine ⟨rfl, _, [], rfl, (by repeat (first | exact List.Sublist.refl _ | apply List.Sublist.cons)), RetR.mk ?_⟩
  exact congrArg (Value.int .u64) (uns_bits hn)

theorem sgn_fn (u : Nat) (hu : u < 18446744073709551616) (H : Hp) : FnC Try.prog 45 #[.int .u64 (u : Nat)] H [] (RetR (fun v _ _ => v = .int .i64 (sgnV u))) := by
  refine FnC.intro (args := [.int .u64 (u : Nat)]) Try.func45 rfl rfl Try.ntmps45 rfl rfl rfl fun G rest => ?_
  refine XC.seq ?_
  refine XC.region ?_
  refine XO.assign rfl rfl ?_
  refine XO.nil ?_
  refine XC.seq2 ?_
  refine XC.seq ?_
  refine XC.region ?_
  refine XO.move rfl rfl ?_
  refine XO.shr rfl rfl (by omega) rfl ?_
  refine XO.convI (c := ((u / 2 : Nat) : Int)) rfl Try.underlying68 Try.underlying3 (by rw [show min (1 : Int).toNat (IntKind.bits .u64) = 1 from rfl, show (2 : Int) ^ 1 = 2 from rfl, Int.fdiv_eq_ediv_of_nonneg _ (by omega), wrap_i64 (by omega) (by omega)]; omega) rfl ?_
  refine XO.move rfl rfl ?_
  refine XO.band rfl rfl rfl ?_
  refine XO.convI (c := ((u % 2 : Nat) : Int)) rfl Try.underlying68 Try.underlying3 (by rw [show IntKind.bits .u64 = 64 from rfl, and_1 (by omega), wrap_u64_mod, wrap_i64 (by omega) (by omega)]; omega) rfl ?_
  refine XO.neg rfl (wrap_i64 (by omega) (by omega)) rfl ?_
  refine XO.bxor rfl rfl rfl ?_
  refine XO.assign rfl rfl ?_
  refine XO.nil ?_
  refine XC.seq2 ?_
  refine XC.ret ?_
  refine ⟨rfl, _, [], rfl, (by repeat (first | exact List.Sublist.refl _ | apply List.Sublist.cons)), RetR.mk ?_⟩
  exact congrArg (Value.int .i64) (sgn_bits hu rfl (by omega))

end Go.Proofs

/- The walks of the functions of the codec: what each of them computes, at any input. -/
set_option autoImplicit false
set_option linter.unusedVariables false
set_option linter.unusedSimpArgs false
namespace Go.Proofs
open Go.XL

theorem by_5 : Nat.ble (Try.prog.bytesOf 5) 4096 = true := by kernel_rfl
theorem ty_5 : tyF Try.prog 5 1 false = true := by kernel_rfl
theorem ze_5 : zeroC Try.prog 5 = some [.int .u8 0] := by kernel_rfl

theorem runs_fn (n : Int) (hn : -9223372036854775808 ≤ n ∧ n ≤ 9223372036854775807) (H : Hp) : FnC Try.prog 43 #[.int .i64 n] H [] (RetR (fun v _ _ => v = .int .u64 (unsV n : Nat))) := by
  refine FnC.intro (args := [.int .i64 n]) Try.func43 rfl rfl Try.ntmps43 rfl rfl rfl fun G rest => ?_
  refine XC.seq ?_
  refine XC.region ?_
  refine XO.assign rfl rfl ?_
  refine XO.nil ?_
  refine XC.seq2 ?_
  refine XC.seq ?_
  refine XC.seq ?_
  refine XC.region ?_
  refine XO.move rfl rfl ?_
  refine XO.geq rfl rfl rfl ?_
  refine XO.nil ?_
  refine XC.seq2 ?_
  refine XC.cond rfl (fun c0_1 => ?_) (fun c0_1 => ?_)
  · refine XC.seq ?_
    refine XC.region ?_
    refine XO.move rfl rfl ?_
    refine XO.convI rfl Try.underlying3 Try.underlying68 (wrap_u64 (by omega) (by omega)) rfl ?_
    refine XO.mul rfl rfl (wrap_u64 (by omega) (by omega)) rfl ?_
    refine XO.assign rfl rfl ?_
    refine XO.nil ?_
    refine XC.seq2 ?_
    refine XC.ret ?_
    refine seqX_ret ?_
    refine ⟨rfl, _, [], rfl, (by repeat (first | exact List.Sublist.refl _ | apply List.Sublist.cons)), RetR.mk ?_⟩
    exact congrArg (Value.int .u64) (by unfold unsV; rw [if_pos (by omega)]; omega)
  · refine XC.skip ?_
    refine XC.seq2 ?_
    refine XC.seq ?_
    refine XC.region ?_
    refine XO.move rfl rfl ?_
    refine XO.add rfl rfl (wrap_i64 (by omega) (by omega)) rfl ?_
    refine XO.neg rfl (wrap_i64 (by omega) (by omega)) rfl ?_
    refine XO.convI rfl Try.underlying3 Try.underlying68 (wrap_u64 (by omega) (by omega)) rfl ?_
    refine XO.mul rfl rfl (wrap_u64 (by omega) (by omega)) rfl ?_
    refine XO.add rfl rfl (wrap_u64 (by omega) (by omega)) rfl ?_
    refine XO.assign rfl rfl ?_
    refine XO.nil ?_
    refine XC.seq2 ?_
    refine XC.ret ?_
    refine ⟨rfl, _, [], rfl, (by repeat (first | exact List.Sublist.refl _ | apply List.Sublist.cons)), RetR.mk ?_⟩
    exact congrArg (Value.int .u64) (by unfold unsV; rw [if_neg (by omega)]; omega)

theorem rnum_all : ∀ (u : Nat) (H : Hp), u < 18446744073709551616 → FnC Try.prog 42 #[.int .u64 (u : Nat)] H [] (RetR fun v H2 _ => ∃ a c, v = .slice a (numL u).length c ∧ SlR u8R H2 a c (numL u)) := by
  intro u
  refine Nat.strongRecOn u ?_
  clear u
  intro u ih H hu
  refine FnC.intro (args := [.int .u64 (u : Nat)]) Try.func42 rfl rfl Try.ntmps42 rfl rfl rfl fun G rest => ?_
  refine XC.seq ?_
  refine XC.region ?_
  refine XO.assign rfl rfl ?_
  refine XO.nil ?_
  refine XC.seq2 ?_
  refine XC.seq ?_
  refine XC.seq ?_
  refine XC.region ?_
  refine XO.move rfl rfl ?_
  refine XO.lss rfl rfl rfl ?_
  refine XO.nil ?_
  refine XC.seq2 ?_
  refine XC.cond rfl (fun c0_1 => ?_) (fun c0_1 => ?_)
  · refine XC.seq ?_
    refine XC.region ?_
    refine XO.move rfl rfl ?_
    refine XO.convI (c := (((UInt8.ofNat u).toNat : Nat) : Int)) rfl Try.underlying68 Try.underlying5 (by rw [ofNat_toNat (by omega)]; exact wrap_u8 (by omega) (by omega)) rfl ?_
    refine XO.buildSlice rfl Try.underlying27 ty_5 ze_5 rfl rfl rfl (fun b7 => ?_)
    refine XO.publish 0 rfl rfl rfl (fun HP7 oP7 hleP7 hbP7 hoP7 => ?_)
    have hsl7 := SlR.lit (ρ := u8R) (l := [UInt8.ofNat u]) hbP7 hoP7 (RowsR.one1 rfl)
    refine XO.assign rfl rfl ?_
    refine XO.nil ?_
    refine XC.seq2 ?_
    refine XC.ret ?_
    refine seqX_ret ?_
    refine ⟨rfl, _, [], rfl, (by repeat (first | exact List.Sublist.refl _ | apply List.Sublist.cons)), RetR.mk ?_⟩
    have e : numL u = [UInt8.ofNat u] := by rw [numL, dif_pos (by omega)]
    rw [e]
    exact ⟨_, _, rfl, by assumption⟩
  · refine XC.skip ?_
    refine XC.seq2 ?_
    refine XC.seq ?_
    refine XC.region ?_
    refine XO.move rfl rfl ?_
    refine XO.rem (c := ((u % 128 : Nat) : Int)) rfl rfl (by decide) (rem_nn (by omega)) rfl ?_
    refine XO.add (c := ((u % 128 + 128 : Nat) : Int)) rfl rfl ((wrap_u64 (by omega) (by omega)).trans (by omega)) rfl ?_
    refine XO.convI (c := (((UInt8.ofNat (u % 128 + 128)).toNat : Nat) : Int)) rfl Try.underlying68 Try.underlying5 (by rw [ofNat_toNat (by omega)]; exact wrap_u8 (by omega) (by omega)) rfl ?_
    refine XO.buildRow (ρ := u8R) (l := [UInt8.ofNat (u % 128 + 128)]) rfl Try.underlying27 ty_5 ze_5 rfl rfl rfl (RowsR.one1 rfl) rfl (fun p12 a12 c12 hacc12 => ?_)
    refine XO.move rfl rfl ?_
    refine XO.quo (c := ((u / 128 : Nat) : Int)) rfl rfl (by decide) (by rw [Int.tdiv_eq_ediv_of_nonneg (by omega)]; exact (wrap_u64 (by omega) (by omega)).trans (by omega)) rfl ?_
    have hcall15 := ih (u / 128) (by omega) H (by omega)
    refine XO.callH rfl hcall15 rfl ?_
    rintro _ HN15 hleN15 ⟨aN15, cN15, rfl, hN15⟩
    replace hacc12 := hacc12.mono hleN15
    have hnl := numL_10 (u := u / 128) (by omega)
    refine XO.appendA 0 rfl rfl hacc12 rfl rfl hN15 rfl Try.underlying27 ty_5 ze_5 rfl by_5 (by simp; omega) rfl (fun p16 a16 c16 hacc16 => ?_)
    refine XO.publishA 0 rfl hacc16 rfl (fun HQ9 hleQ9 hsQ9 => ?_)
    replace hN15 := hN15.mono hleQ9
    refine XO.assign rfl rfl ?_
    refine XO.nil ?_
    refine XC.seq2 ?_
    refine XC.ret ?_
    refine ⟨rfl, _, [], rfl, (by repeat (first | exact List.Sublist.refl _ | apply List.Sublist.cons)), RetR.mk ?_⟩
    have e : numL u = [UInt8.ofNat (u % 128 + 128)] ++ numL (u / 128) := by rw [numL, dif_neg (by omega)]; rfl
    rw [e]
    exact ⟨_, _, rfl, by assumption⟩

theorem equal_fn (a0 b0 : Option Addr) (c0 d0 : Nat) (l l2 : List Val) (g : Value) (H : Hp) (hs : SlR valR H a0 c0 l) (ht : SlR valR H b0 d0 l2) (hl : l.length < 9223372036854775808) (hg : ∀ (k n : Int) (s : List UInt8) (l' : List Val) (a : Option Addr) (c : Nat) (k2 n2 : Int) (s2 : List UInt8) (l2' : List Val) (a2 : Option Addr) (c2 : Nat), Val.mk k n s l' ∈ l → SlR valR H a c l' → SlR valR H a2 c2 l2' → FnV Try.prog g [.agg ⟨[.int .i64 k, .int .i64 n, .string (bsOf s), .slice a l'.length c]⟩, .agg ⟨[.int .i64 k2, .int .i64 n2, .string (bsOf s2), .slice a2 l2'.length c2]⟩] H [] (RetR fun u _ _ => u = .bool (sameV (.mk k n s l') (.mk k2 n2 s2 l2')))) : FnC Try.prog 35 #[.slice a0 l.length c0, .slice b0 l2.length d0, g] H [] (RetR (fun v _ _ => v = .bool (sameL l l2))) := by
  refine FnC.intro (args := [.slice a0 l.length c0, .slice b0 l2.length d0, g]) Try.func35 rfl rfl Try.ntmps35 rfl rfl rfl fun G rest => ?_
  refine XC.seq ?_
  refine XC.region ?_
  refine XO.assign rfl rfl ?_
  refine XO.nil ?_
  refine XC.seq2 ?_
  refine XC.seq ?_
  refine XC.seq ?_
  refine XC.region ?_
  refine XO.move rfl rfl ?_
  refine XO.lenS (ts := #[]) rfl Try.underlying22 rfl ?_
  refine XO.move rfl rfl ?_
  refine XO.lenS (ts := #[]) rfl Try.underlying22 rfl ?_
  refine XO.neq rfl rfl rfl ?_
  refine XO.nil ?_
  refine XC.seq2 ?_
  refine XC.cond rfl (fun c0_1 => ?_) (fun c0_1 => ?_)
  · refine XC.seq ?_
    refine XC.region ?_
    refine XO.assign rfl rfl ?_
    refine XO.nil ?_
    refine XC.seq2 ?_
    refine XC.ret ?_
    refine seqX_ret ?_
    refine ⟨rfl, _, [], rfl, (by repeat (first | exact List.Sublist.refl _ | apply List.Sublist.cons)), RetR.mk ?_⟩
    exact congrArg Value.bool (sameL_no (by omega)).symm
  · refine XC.skip ?_
    refine XC.seq2 ?_
    refine XC.seq ?_
    refine XC.seq ?_
    refine XC.region ?_
    refine XO.move rfl rfl ?_
    refine XO.lenS (ts := #[]) rfl Try.underlying22 rfl ?_
    refine XO.move rfl rfl ?_
    refine XO.nil ?_
    refine XC.seq2 ?_
    refine XC.block ?_
    refine XC.keep [17, 1, 2, 15, 16] rfl ?_
    refine XC.loop (base := [(1, _), (2, _), (15, _), (16, _)]) (fun ζ : Nat => [(17, .int .i64 (ζ : Nat))]) (fun ζ Hl own => ζ ≤ l.length ∧ rest = own ∧ (sameL (l.take ζ) (l2.take ζ) = true) ∧ (H = Hl)) (fun ζ => l.length - ζ) 0 (prov_cons (rfl) (prov_cons (rfl) (prov_cons (rfl) (prov_cons (rfl) (prov_cons (rfl) prov_nil))))) (by repeat (first | exact List.Sublist.refl _ | apply List.Sublist.cons_cons | apply List.Sublist.cons)) ⟨Nat.zero_le _, rfl, rfl, rfl⟩ ?_
    rintro i Hl0 _ hle0 ⟨hki, rfl, heq, hHl⟩
    replace hs := hs.mono hle0
    replace ht := ht.mono hle0
    try dsimp only at ⊢
    subst hHl
    refine XC.seq ?_
    refine XC.region ?_
    refine XO.lss rfl rfl rfl ?_
    refine XO.nil ?_
    refine XC.seq2 ?_
    refine XC.seq ?_
    refine XC.cond rfl (fun c1_2 => ?_) (fun c1_2 => ?_)
    · refine XC.skip ?_
      refine XC.seq2 ?_
      refine XC.seq ?_
      refine XC.block ?_
      refine XC.seq ?_
      refine XC.region ?_
      refine XO.move rfl rfl ?_
      refine XO.indexN rfl hs rfl Try.underlying22 ty_24 (by omega) rfl ?_
      rintro eb20 eo20 _ x20 hx20 hR20 hp20
      obtain ⟨k20, n20, s20, l20⟩ := x20
      obtain ⟨a20, c20, rfl, hd20⟩ := valR_iff.1 hR20
      refine XO.loadH rfl (by assumption) ty_24 rfl rfl rfl ?_
      refine XO.alloc ze_24 rfl (fun b8 => ?_)
      refine XO.assign rfl rfl ?_
      refine XO.storeO 0 rfl rfl rfl rfl ty_24 rfl rfl rfl rfl rfl ?_
      refine XO.nil ?_
      refine XC.seq2 ?_
      refine XC.seq ?_
      refine XC.region ?_
      refine XO.move rfl rfl ?_
      refine XO.move rfl rfl ?_
      refine XO.indexN rfl ht rfl Try.underlying22 ty_24 (by omega) rfl ?_
      rintro eb24 eo24 _ x24 hx24 hR24 hp24
      obtain ⟨k24, n24, s24, l24⟩ := x24
      obtain ⟨a24, c24, rfl, hd24⟩ := valR_iff.1 hR24
      refine XO.loadH rfl (by assumption) ty_24 rfl rfl rfl ?_
      refine XO.alloc ze_24 rfl (fun b9 => ?_)
      refine XO.storeO 0 rfl rfl rfl rfl ty_24 rfl rfl rfl rfl rfl ?_
      refine XO.nil ?_
      refine XC.seq2 ?_
      refine XC.seq ?_
      refine XC.region ?_
      refine XO.move rfl rfl ?_
      refine XO.loadO 1 rfl rfl ty_24 rfl rfl rfl ?_
      refine XO.loadO 0 rfl rfl ty_24 rfl rfl rfl ?_
      refine XO.callValK rfl trivial rfl (hg _ _ _ _ _ _ _ _ _ _ _ _ (List.mem_of_getElem? hx20) hd20 hd24) rfl ?_
      rintro _ rfl
      refine XO.notB rfl rfl ?_
      refine XO.nil ?_
      refine XC.seq2 ?_
      refine XC.condB rfl (fun c2_6 => ?_) (fun c2_6 => ?_)
      · have hno : sameV (.mk k20 n20 s20 l20) (.mk k24 n24 s24 l24) = false := by simpa using c2_6
        refine XC.seq ?_
        refine XC.region ?_
        refine XO.assign rfl rfl ?_
        refine XO.nil ?_
        refine XC.seq2 ?_
        refine XC.ret ?_
        refine blockR ?_
        refine seqX_ret ?_
        refine loopX_ret ?_
        refine blockR ?_
        refine seqX_ret ?_
        refine ⟨rfl, _, [], rfl, (by repeat (first | exact List.Sublist.refl _ | apply List.Sublist.cons)), RetR.mk ?_⟩
        exact congrArg Value.bool (sameL_diff hx20 hx24 hno).symm
      · have hyes : sameV (.mk k20 n20 s20 l20) (.mk k24 n24 s24 l24) = true := by simpa using c2_6
        refine XC.skip ?_
        refine blockN ?_
        refine XC.seq2 ?_
        refine XC.region ?_
        refine XO.add rfl rfl (wrap_i64 (by omega) (by omega)) rfl ?_
        refine XO.move rfl rfl ?_
        refine XO.nil ?_
        refine loop_next (i + 1) (by show l.length - (i + 1) < l.length - i; omega) (prov_cons (rfl) (prov_cons (rfl) (prov_cons (rfl) (prov_cons (rfl) (prov_cons (rfl) prov_nil))))) (⟨by show i + 1 ≤ l.length; omega, rfl, by rw [sameL_snoc hx20 hx24, heq, hyes]; rfl, rfl⟩) (by repeat (first | exact List.Sublist.refl _ | apply List.Sublist.cons_cons | apply List.Sublist.cons)) (hle0)
    · obtain rfl : i = l.length := by omega
      rw [List.take_length, List.take_of_length_le (by omega)] at heq
      refine XC.exit ?_
      refine seqX_exit ?_
      refine loopX_exit ?_
      refine blockHit rfl ?_
      refine XC.seq2 ?_
      refine XC.seq ?_
      refine XC.region ?_
      refine XO.assign rfl rfl ?_
      refine XO.nil ?_
      refine XC.seq2 ?_
      refine XC.ret ?_
      refine ⟨rfl, _, [], rfl, (by repeat (first | exact List.Sublist.refl _ | apply List.Sublist.cons)), RetR.mk ?_⟩
      exact congrArg Value.bool heq.symm

theorem same_all : ∀ (m : Nat) (k n k2 n2 : Int) (s s2 : List UInt8) (l l2 : List Val) (a a2 : Option Addr) (c c2 : Nat) (H : Hp), wszV (.mk k n s l) ≤ m → m ≤ 1000000 → SlR valR H a c l → SlR valR H a2 c2 l2 → FnC Try.prog 21 #[.agg ⟨[.int .i64 k, .int .i64 n, .string (bsOf s), .slice a l.length c]⟩, .agg ⟨[.int .i64 k2, .int .i64 n2, .string (bsOf s2), .slice a2 l2.length c2]⟩] H [] (RetR fun v _ _ => v = .bool (sameV (.mk k n s l) (.mk k2 n2 s2 l2))) := by
  intro m
  refine Nat.strongRecOn m ?_
  clear m
  intro m ih k n k2 n2 s s2 l l2 a a2 c c2 H hw hm hs ht
  have hwl := wsz_len (l := l)
  rw [wszV] at hw
  refine FnC.intro (args := [.agg ⟨[.int .i64 k, .int .i64 n, .string (bsOf s), .slice a l.length c]⟩, .agg ⟨[.int .i64 k2, .int .i64 n2, .string (bsOf s2), .slice a2 l2.length c2]⟩]) Try.func21 rfl rfl Try.ntmps21 rfl rfl rfl fun G rest => ?_
  refine XC.seq ?_
  refine XC.region ?_
  refine XO.box rfl rfl rfl (fun b2 => ?_)
  refine XO.box rfl rfl rfl (fun b3 => ?_)
  refine XO.assign rfl rfl ?_
  refine XO.nil ?_
  refine XC.seq2 ?_
  refine XC.seq ?_
  refine XC.region ?_
  refine XO.fieldAddr rfl fa_24_0 rfl ?_
  refine XO.loadO 1 rfl rfl ty_3 rfl rfl rfl ?_
  refine XO.fieldAddr rfl fa_24_0 rfl ?_
  refine XO.loadO 0 rfl rfl ty_3 rfl rfl rfl ?_
  refine XO.eql rfl rfl rfl ?_
  refine XO.move rfl rfl ?_
  refine XO.guardC rfl rfl rfl rfl (fun g1 => ?_) (fun g1 => ?_)
  · have g1p := of_decide_eq_true g1
    refine XO.fieldAddr rfl fa_24_1 rfl ?_
    refine XO.guardT rfl rfl (g1) rfl ?_
    refine XO.loadO 1 rfl rfl ty_3 rfl rfl rfl ?_
    refine XO.guardT rfl rfl (g1) rfl ?_
    refine XO.fieldAddr rfl fa_24_1 rfl ?_
    refine XO.guardT rfl rfl (g1) rfl ?_
    refine XO.loadO 0 rfl rfl ty_3 rfl rfl rfl ?_
    refine XO.guardT rfl rfl (g1) rfl ?_
    refine XO.eql rfl rfl rfl ?_
    refine XO.pickT rfl (g1) rfl rfl ?_
    refine XO.move rfl rfl ?_
    refine XO.guardC rfl rfl rfl rfl (fun g2 => ?_) (fun g2 => ?_)
    · have g2p := of_decide_eq_true g2
      refine XO.fieldAddr rfl fa_24_2 rfl ?_
      refine XO.guardT rfl rfl (g2) rfl ?_
      refine XO.loadO 1 rfl rfl ty_9 rfl rfl rfl ?_
      refine XO.guardT rfl rfl (g2) rfl ?_
      refine XO.fieldAddr rfl fa_24_2 rfl ?_
      refine XO.guardT rfl rfl (g2) rfl ?_
      refine XO.loadO 0 rfl rfl ty_9 rfl rfl rfl ?_
      refine XO.guardT rfl rfl (g2) rfl ?_
      refine XO.eqlS rfl rfl rfl ?_
      refine XO.pickT rfl (g2) rfl rfl ?_
      refine XO.move rfl rfl ?_
      refine XO.guardC rfl rfl rfl rfl (fun g3 => ?_) (fun g3 => ?_)
      · have g3p := of_decide_eq_true g3
        refine XO.fieldAddr rfl fa_24_3 rfl ?_
        refine XO.guardT rfl rfl (g3) rfl ?_
        refine XO.loadO 1 rfl rfl ty_22 rfl rfl rfl ?_
        refine XO.guardT rfl rfl (g3) rfl ?_
        refine XO.fieldAddr rfl fa_24_3 rfl ?_
        refine XO.guardT rfl rfl (g3) rfl ?_
        refine XO.loadO 0 rfl rfl ty_22 rfl rfl rfl ?_
        refine XO.guardT rfl rfl (g3) rfl ?_
        have hcall := equal_fn a a2 c c2 l l2 (.func (.func 21) #[] #[]) _ hs ht (by omega) (fun k n s l' a c k2 n2 s2 l2' a2 c2 hmem h1 h2 => by
          have hwx := wsz_mem hmem
          exact FnV.of_fn (cap := []) (args := [_, _]) (ih _ (show wszV (.mk k n s l') < m by omega) k n k2 n2 s s2 l' l2' a a2 c c2 _ (Nat.le_refl _) (by omega) h1 h2))
        refine XO.callV rfl hcall rfl ?_
        refine XO.pickT rfl (g3) rfl rfl ?_
        refine XO.assign rfl rfl ?_
        refine XO.nil ?_
        refine XC.seq2 ?_
        refine XC.ret ?_
        refine ⟨rfl, _, [], rfl, (by repeat (first | exact List.Sublist.refl _ | apply List.Sublist.cons)), RetR.mk ?_⟩
        first | exact congrArg Value.bool (Bool.eq_iff_iff.2 (by rw [sameV_mk]; simp_all)) | exact congrArg Value.bool (bfalse (by rw [sameV_mk]; simp_all)).symm
      · have g3p := of_decide_eq_false g3
        refine XO.guardF rfl rfl (g3) rfl rfl ?_
        refine XO.guardF rfl rfl (g3) rfl rfl ?_
        refine XO.guardF rfl rfl (g3) rfl rfl ?_
        refine XO.guardF rfl rfl (g3) rfl rfl ?_
        refine XO.pickF rfl (g3) rfl rfl ?_
        refine XO.assign rfl rfl ?_
        refine XO.nil ?_
        refine XC.seq2 ?_
        refine XC.ret ?_
        refine ⟨rfl, _, [], rfl, (by repeat (first | exact List.Sublist.refl _ | apply List.Sublist.cons)), RetR.mk ?_⟩
        first | exact congrArg Value.bool (Bool.eq_iff_iff.2 (by rw [sameV_mk]; simp_all)) | exact congrArg Value.bool (bfalse (by rw [sameV_mk]; simp_all)).symm
    · have g2p := of_decide_eq_false g2
      refine XO.guardF rfl rfl (g2) rfl rfl ?_
      refine XO.guardF rfl rfl (g2) rfl rfl ?_
      refine XO.guardF rfl rfl (g2) rfl rfl ?_
      refine XO.guardF rfl rfl (g2) rfl rfl ?_
      refine XO.pickF rfl (g2) rfl rfl ?_
      refine XO.move rfl rfl ?_
      refine XO.guardF rfl rfl (rfl) rfl rfl ?_
      refine XO.guardF rfl rfl (rfl) rfl rfl ?_
      refine XO.guardF rfl rfl (rfl) rfl rfl ?_
      refine XO.guardF rfl rfl (rfl) rfl rfl ?_
      refine XO.guardF rfl rfl (rfl) rfl rfl ?_
      refine XO.pickF rfl (rfl) rfl rfl ?_
      refine XO.assign rfl rfl ?_
      refine XO.nil ?_
      refine XC.seq2 ?_
      refine XC.ret ?_
      refine ⟨rfl, _, [], rfl, (by repeat (first | exact List.Sublist.refl _ | apply List.Sublist.cons)), RetR.mk ?_⟩
      first | exact congrArg Value.bool (Bool.eq_iff_iff.2 (by rw [sameV_mk]; simp_all)) | exact congrArg Value.bool (bfalse (by rw [sameV_mk]; simp_all)).symm
  · have g1p := of_decide_eq_false g1
    refine XO.guardF rfl rfl (g1) rfl rfl ?_
    refine XO.guardF rfl rfl (g1) rfl rfl ?_
    refine XO.guardF rfl rfl (g1) rfl rfl ?_
    refine XO.guardF rfl rfl (g1) rfl rfl ?_
    refine XO.pickF rfl (g1) rfl rfl ?_
    refine XO.move rfl rfl ?_
    refine XO.guardF rfl rfl (rfl) rfl rfl ?_
    refine XO.guardF rfl rfl (rfl) rfl rfl ?_
    refine XO.guardF rfl rfl (rfl) rfl rfl ?_
    refine XO.guardF rfl rfl (rfl) rfl rfl ?_
    refine XO.guardF rfl rfl (rfl) rfl rfl ?_
    refine XO.pickF rfl (rfl) rfl rfl ?_
    refine XO.move rfl rfl ?_
    refine XO.guardF rfl rfl (rfl) rfl rfl ?_
    refine XO.guardF rfl rfl (rfl) rfl rfl ?_
    refine XO.guardF rfl rfl (rfl) rfl rfl ?_
    refine XO.guardF rfl rfl (rfl) rfl rfl ?_
    refine XO.guardF rfl rfl (rfl) rfl rfl ?_
    refine XO.pickF rfl (rfl) rfl rfl ?_
    refine XO.assign rfl rfl ?_
    refine XO.nil ?_
    refine XC.seq2 ?_
    refine XC.ret ?_
    refine ⟨rfl, _, [], rfl, (by repeat (first | exact List.Sublist.refl _ | apply List.Sublist.cons)), RetR.mk ?_⟩
    first | exact congrArg Value.bool (Bool.eq_iff_iff.2 (by rw [sameV_mk]; simp_all)) | exact congrArg Value.bool (bfalse (by rw [sameV_mk]; simp_all)).symm

theorem rsame_all : ∀ (m : Nat) (k n k2 n2 : Int) (s s2 : List UInt8) (l l2 : List Val) (a a2 : Option Addr) (c c2 : Nat) (H : Hp), wszV (.mk k n s l) ≤ m → m ≤ 1000000 → SlR valR H a c l → SlR valR H a2 c2 l2 → FnC Try.prog 20 #[.agg ⟨[.int .i64 k, .int .i64 n, .string (bsOf s), .slice a l.length c]⟩, .agg ⟨[.int .i64 k2, .int .i64 n2, .string (bsOf s2), .slice a2 l2.length c2]⟩] H [] (RetR fun v _ _ => v = .bool (sameV (.mk k n s l) (.mk k2 n2 s2 l2))) := by
  intro m
  refine Nat.strongRecOn m ?_
  clear m
  intro m ih k n k2 n2 s s2 l l2 a a2 c c2 H hw hm hs ht
  have hwl := wsz_len (l := l)
  rw [wszV] at hw
  refine FnC.intro (args := [.agg ⟨[.int .i64 k, .int .i64 n, .string (bsOf s), .slice a l.length c]⟩, .agg ⟨[.int .i64 k2, .int .i64 n2, .string (bsOf s2), .slice a2 l2.length c2]⟩]) Try.func20 rfl rfl Try.ntmps20 rfl rfl rfl fun G rest => ?_
  refine XC.seq ?_
  refine XC.region ?_
  refine XO.box rfl rfl rfl (fun b2 => ?_)
  refine XO.box rfl rfl rfl (fun b3 => ?_)
  refine XO.assign rfl rfl ?_
  refine XO.nil ?_
  refine XC.seq2 ?_
  refine XC.seq ?_
  refine XC.seq ?_
  refine XC.region ?_
  refine XO.fieldAddr rfl fa_24_0 rfl ?_
  refine XO.loadO 1 rfl rfl ty_3 rfl rfl rfl ?_
  refine XO.fieldAddr rfl fa_24_0 rfl ?_
  refine XO.loadO 0 rfl rfl ty_3 rfl rfl rfl ?_
  refine XO.neq rfl rfl rfl ?_
  refine XO.move rfl rfl ?_
  refine XO.guardC rfl rfl rfl rfl (fun g1 => ?_) (fun g1 => ?_)
  · have g1p := of_decide_eq_false g1
    refine XO.fieldAddr rfl fa_24_1 rfl ?_
    refine XO.guardT rfl rfl (g1) rfl ?_
    refine XO.loadO 1 rfl rfl ty_3 rfl rfl rfl ?_
    refine XO.guardT rfl rfl (g1) rfl ?_
    refine XO.fieldAddr rfl fa_24_1 rfl ?_
    refine XO.guardT rfl rfl (g1) rfl ?_
    refine XO.loadO 0 rfl rfl ty_3 rfl rfl rfl ?_
    refine XO.guardT rfl rfl (g1) rfl ?_
    refine XO.neq rfl rfl rfl ?_
    refine XO.pickF rfl (g1) rfl rfl ?_
    refine XO.move rfl rfl ?_
    refine XO.guardC rfl rfl rfl rfl (fun g2 => ?_) (fun g2 => ?_)
    · have g2p := of_decide_eq_false g2
      refine XO.fieldAddr rfl fa_24_2 rfl ?_
      refine XO.guardT rfl rfl (g2) rfl ?_
      refine XO.loadO 1 rfl rfl ty_9 rfl rfl rfl ?_
      refine XO.guardT rfl rfl (g2) rfl ?_
      refine XO.fieldAddr rfl fa_24_2 rfl ?_
      refine XO.guardT rfl rfl (g2) rfl ?_
      refine XO.loadO 0 rfl rfl ty_9 rfl rfl rfl ?_
      refine XO.guardT rfl rfl (g2) rfl ?_
      refine XO.neqS rfl rfl rfl ?_
      refine XO.pickF rfl (g2) rfl rfl ?_
      refine XO.move rfl rfl ?_
      refine XO.guardC rfl rfl rfl rfl (fun g3 => ?_) (fun g3 => ?_)
      · have g3p := of_decide_eq_false g3
        refine XO.fieldAddr rfl fa_24_3 rfl ?_
        refine XO.guardT rfl rfl (g3) rfl ?_
        refine XO.loadO 1 rfl rfl ty_22 rfl rfl rfl ?_
        refine XO.guardT rfl rfl (g3) rfl ?_
        refine XO.lenS (ts := #[]) rfl Try.underlying22 rfl ?_
        refine XO.guardT rfl rfl (g3) rfl ?_
        refine XO.fieldAddr rfl fa_24_3 rfl ?_
        refine XO.guardT rfl rfl (g3) rfl ?_
        refine XO.loadO 0 rfl rfl ty_22 rfl rfl rfl ?_
        refine XO.guardT rfl rfl (g3) rfl ?_
        refine XO.lenS (ts := #[]) rfl Try.underlying22 rfl ?_
        refine XO.guardT rfl rfl (g3) rfl ?_
        refine XO.neq rfl rfl rfl ?_
        refine XO.pickF rfl (g3) rfl rfl ?_
        refine XO.nil ?_
        refine XC.seq2 ?_
        refine XC.cond rfl (fun c0_4 => ?_) (fun c0_4 => ?_)
        · refine XC.seq ?_
          refine XC.region ?_
          refine XO.assign rfl rfl ?_
          refine XO.nil ?_
          refine XC.seq2 ?_
          refine XC.ret ?_
          refine seqX_ret ?_
          refine ⟨rfl, _, [], rfl, (by repeat (first | exact List.Sublist.refl _ | apply List.Sublist.cons)), RetR.mk ?_⟩
          first | exact congrArg Value.bool (bfalse fun h => by have h9 := sameL_diff hxX hxY hno; have h8 := (sameV_mk.1 h).2; rw [h9] at h8; cases h8).symm | exact congrArg Value.bool (sameV_mk.2 ⟨⟨by simp_all, by simp_all, by simp_all⟩, heq⟩).symm | exact congrArg Value.bool (bfalse fun h => by have h9 := sameV_mk.1 h; have h8 := sameL_len h9.2; simp_all).symm
        · refine XC.skip ?_
          refine XC.seq2 ?_
          refine XC.seq ?_
          refine XC.seq ?_
          refine XC.region ?_
          refine XO.assign rfl rfl ?_
          refine XO.nil ?_
          refine XC.seq2 ?_
          refine XC.block ?_
          refine XC.keep [5, 2, 3] rfl ?_
          refine XC.loop (base := [(2, _), (3, _)]) (fun ζ : Nat => [(5, .int .i64 (ζ : Nat))]) (fun ζ Hl own => ζ ≤ l.length ∧ (b3, .cells 24 [.int .i64 k2, .int .i64 n2, .string (bsOf s2), .slice a2 l2.length c2]) :: (b2, .cells 24 [.int .i64 k, .int .i64 n, .string (bsOf s), .slice a l.length c]) :: rest = own ∧ (sameL (l.take ζ) (l2.take ζ) = true)) (fun ζ => l.length - ζ) 0 (prov_cons (rfl) (prov_cons (rfl) (prov_cons (rfl) prov_nil))) (by repeat (first | exact List.Sublist.refl _ | apply List.Sublist.cons_cons | apply List.Sublist.cons)) ⟨Nat.zero_le _, rfl, rfl⟩ ?_
          rintro i Hl0 _ hle0 ⟨hki, rfl, heq⟩
          replace hs := hs.mono hle0
          replace ht := ht.mono hle0
          try dsimp only at ⊢
          refine XC.seq ?_
          refine XC.seq ?_
          refine XC.region ?_
          refine XO.move rfl rfl ?_
          refine XO.fieldAddr rfl fa_24_3 rfl ?_
          refine XO.loadO 1 rfl rfl ty_22 rfl rfl rfl ?_
          refine XO.lenS (ts := #[]) rfl Try.underlying22 rfl ?_
          refine XO.lss rfl rfl rfl ?_
          refine XO.nil ?_
          refine XC.seq2 ?_
          refine XC.cond rfl (fun c1_5 => ?_) (fun c1_5 => ?_)
          · refine XC.skip ?_
            refine XC.seq2 ?_
            refine XC.seq ?_
            refine XC.block ?_
            refine XC.seq ?_
            refine XC.keep [2, 3, 5] rfl ?_
            obtain ⟨bEX, oEX, rfl⟩ := hs.addr (by omega)
            obtain ⟨_, xX, hxX, hRX, hpX⟩ := hs.elem (i) (by omega)
            obtain ⟨kX, nX, sX, lX⟩ := xX
            obtain ⟨aX, cX, rfl, hdX⟩ := valR_iff.1 hRX
            obtain ⟨bEY, oEY, rfl⟩ := ht.addr (by omega)
            obtain ⟨_, xY, hxY, hRY, hpY⟩ := ht.elem (i) (by omega)
            obtain ⟨kY, nY, sY, lY⟩ := xY
            obtain ⟨aY, cY, rfl, hdY⟩ := valR_iff.1 hRY
            apply XC.draw 10 [eqF _, eqF _, eqF _, eqF _, eqF _, eqF _, eqF _, eqF _, eqF _, eqF _] follows (by kernel_rfl) (by kernel_rfl) ⟨eqF_mono _, eqF_mono _, eqF_mono _, eqF_mono _, eqF_mono _, eqF_mono _, eqF_mono _, eqF_mono _, eqF_mono _, eqF_mono _, trivial⟩ ?steps6 ?tail6
            case steps6 =>
              refine stepsK_cons rfl ?_ ?_
              · intro X
                refine withPreds_nil rfl ?_
                refine XO.fieldAddr rfl fa_24_3 rfl ?_
                refine XO.nil ?_
                exact stepQ_ok rfl (rfl)
              refine stepsK_cons rfl ?_ ?_
              · intro X
                refine withPreds_cons rfl rfl ?_
                rintro _ rfl
                refine withPreds_nil rfl ?_
                refine XO.loadO 1 rfl rfl ty_22 rfl rfl rfl ?_
                refine XO.nil ?_
                exact stepQ_ok rfl (rfl)
              refine stepsK_cons rfl ?_ ?_
              · intro X
                refine withPreds_nil rfl ?_
                refine XO.move rfl rfl ?_
                refine XO.nil ?_
                exact stepQ_ok rfl (rfl)
              refine stepsK_cons rfl ?_ ?_
              · intro X
                refine withPreds_cons rfl rfl ?_
                rintro _ rfl
                refine withPreds_cons rfl rfl ?_
                rintro _ rfl
                refine withPreds_nil rfl ?_
                refine XO.indexE rfl rfl Try.underlying22 ty_24 (by omega) (by omega) rfl ?_
                refine XO.nil ?_
                exact stepQ_ok rfl (rfl)
              refine stepsK_cons rfl ?_ ?_
              · intro X
                refine withPreds_cons rfl rfl ?_
                rintro _ rfl
                refine withPreds_nil rfl ?_
                refine XO.loadH rfl (by assumption) ty_24 rfl rfl rfl ?_
                refine XO.nil ?_
                exact stepQ_ok rfl (rfl)
              refine stepsK_cons rfl ?_ ?_
              · intro X
                refine withPreds_nil rfl ?_
                refine XO.fieldAddr rfl fa_24_3 rfl ?_
                refine XO.nil ?_
                exact stepQ_ok rfl (rfl)
              refine stepsK_cons rfl ?_ ?_
              · intro X
                refine withPreds_cons rfl rfl ?_
                rintro _ rfl
                refine withPreds_nil rfl ?_
                refine XO.loadO 0 rfl rfl ty_22 rfl rfl rfl ?_
                refine XO.nil ?_
                exact stepQ_ok rfl (rfl)
              refine stepsK_cons rfl ?_ ?_
              · intro X
                refine withPreds_nil rfl ?_
                refine XO.move rfl rfl ?_
                refine XO.nil ?_
                exact stepQ_ok rfl (rfl)
              refine stepsK_cons rfl ?_ ?_
              · intro X
                refine withPreds_cons rfl rfl ?_
                rintro _ rfl
                refine withPreds_cons rfl rfl ?_
                rintro _ rfl
                refine withPreds_nil rfl ?_
                refine XO.indexE rfl rfl Try.underlying22 ty_24 (by omega) (by omega) rfl ?_
                refine XO.nil ?_
                exact stepQ_ok rfl (rfl)
              refine stepsK_cons rfl ?_ ?_
              · intro X
                refine withPreds_cons rfl rfl ?_
                rintro _ rfl
                refine withPreds_nil rfl ?_
                refine XO.loadH rfl (by assumption) ty_24 rfl rfl rfl ?_
                refine XO.nil ?_
                exact stepQ_ok rfl (rfl)
              exact stepsD_end rfl
            case tail6 =>
              refine withPreds_cons rfl rfl ?_
              rintro _ rfl
              refine withPreds_cons rfl rfl ?_
              rintro _ rfl
              refine withPreds_cons rfl rfl ?_
              rintro _ rfl
              refine withPreds_cons rfl rfl ?_
              rintro _ rfl
              refine withPreds_cons rfl rfl ?_
              rintro _ rfl
              refine withPreds_cons rfl rfl ?_
              rintro _ rfl
              refine withPreds_cons rfl rfl ?_
              rintro _ rfl
              refine withPreds_cons rfl rfl ?_
              rintro _ rfl
              refine withPreds_cons rfl rfl ?_
              rintro _ rfl
              refine withPreds_cons rfl rfl ?_
              rintro _ rfl
              refine withPreds_nil rfl ?_
              have hwx := wsz_mem (List.mem_of_getElem? hxX)
              have hcall := ih (wszV (.mk kX nX sX lX)) (by omega) kX nX kY nY sX sY lX lY aX aY cX cY _ (Nat.le_refl _) (by omega) hdX hdY
              refine XO.callV rfl hcall rfl ?_
              refine XO.notB rfl rfl ?_
              refine XO.nil ?_
              refine XC.seq2 ?_
              refine XC.condB rfl (fun c2_10 => ?_) (fun c2_10 => ?_)
              · have hno : sameV (.mk kX nX sX lX) (.mk kY nY sY lY) = false := by simpa using c2_10
                refine XC.seq ?_
                refine XC.region ?_
                refine XO.assign rfl rfl ?_
                refine XO.nil ?_
                refine XC.seq2 ?_
                refine XC.ret ?_
                refine blockR ?_
                refine seqX_ret ?_
                refine loopX_ret ?_
                refine blockR ?_
                refine seqX_ret ?_
                refine ⟨rfl, _, [], rfl, (by repeat (first | exact List.Sublist.refl _ | apply List.Sublist.cons)), RetR.mk ?_⟩
                first | exact congrArg Value.bool (bfalse fun h => by have h9 := sameL_diff hxX hxY hno; have h8 := (sameV_mk.1 h).2; rw [h9] at h8; cases h8).symm | exact congrArg Value.bool (sameV_mk.2 ⟨⟨by simp_all, by simp_all, by simp_all⟩, heq⟩).symm | exact congrArg Value.bool (bfalse fun h => by have h9 := sameV_mk.1 h; have h8 := sameL_len h9.2; simp_all).symm
              · have hyes : sameV (.mk kX nX sX lX) (.mk kY nY sY lY) = true := by simpa using c2_10
                refine XC.skip ?_
                refine blockN ?_
                refine XC.seq2 ?_
                refine XC.region ?_
                refine XO.move rfl rfl ?_
                refine XO.add rfl rfl (wrap_i64 (by omega) (by omega)) rfl ?_
                refine XO.assign rfl rfl ?_
                refine XO.nil ?_
                refine loop_next (i + 1) (by show l.length - (i + 1) < l.length - i; omega) (prov_cons (rfl) (prov_cons (rfl) (prov_cons (rfl) prov_nil))) (⟨by show i + 1 ≤ l.length; omega, rfl, by rw [sameL_snoc hxX hxY, heq, hyes]; rfl⟩) (by repeat (first | exact List.Sublist.refl _ | apply List.Sublist.cons_cons | apply List.Sublist.cons)) (hle0)
          · obtain rfl : i = l.length := by omega
            rw [List.take_length, List.take_of_length_le (by omega)] at heq
            refine XC.exit ?_
            refine seqX_exit ?_
            refine loopX_exit ?_
            refine blockHit rfl ?_
            refine XC.seq2 ?_
            refine XC.seq ?_
            refine XC.region ?_
            refine XO.assign rfl rfl ?_
            refine XO.nil ?_
            refine XC.seq2 ?_
            refine XC.ret ?_
            refine ⟨rfl, _, [], rfl, (by repeat (first | exact List.Sublist.refl _ | apply List.Sublist.cons)), RetR.mk ?_⟩
            first | exact congrArg Value.bool (bfalse fun h => by have h9 := sameL_diff hxX hxY hno; have h8 := (sameV_mk.1 h).2; rw [h9] at h8; cases h8).symm | exact congrArg Value.bool (sameV_mk.2 ⟨⟨by simp_all, by simp_all, by simp_all⟩, heq⟩).symm | exact congrArg Value.bool (bfalse fun h => by have h9 := sameV_mk.1 h; have h8 := sameL_len h9.2; simp_all).symm
      · have g3p := of_decide_eq_true g3
        refine XO.guardF rfl rfl (g3) rfl rfl ?_
        refine XO.guardF rfl rfl (g3) rfl rfl ?_
        refine XO.guardF rfl rfl (g3) rfl rfl ?_
        refine XO.guardF rfl rfl (g3) rfl rfl ?_
        refine XO.guardF rfl rfl (g3) rfl rfl ?_
        refine XO.guardF rfl rfl (g3) rfl rfl ?_
        refine XO.pickT rfl (g3) rfl rfl ?_
        refine XO.nil ?_
        refine XC.seq2 ?_
        refine XC.condT rfl (rfl) ?_
        refine XC.seq ?_
        refine XC.region ?_
        refine XO.assign rfl rfl ?_
        refine XO.nil ?_
        refine XC.seq2 ?_
        refine XC.ret ?_
        refine seqX_ret ?_
        refine ⟨rfl, _, [], rfl, (by repeat (first | exact List.Sublist.refl _ | apply List.Sublist.cons)), RetR.mk ?_⟩
        first | exact congrArg Value.bool (bfalse fun h => by have h9 := sameL_diff hxX hxY hno; have h8 := (sameV_mk.1 h).2; rw [h9] at h8; cases h8).symm | exact congrArg Value.bool (sameV_mk.2 ⟨⟨by simp_all, by simp_all, by simp_all⟩, heq⟩).symm | exact congrArg Value.bool (bfalse fun h => by have h9 := sameV_mk.1 h; have h8 := sameL_len h9.2; simp_all).symm
    · have g2p := of_decide_eq_true g2
      refine XO.guardF rfl rfl (g2) rfl rfl ?_
      refine XO.guardF rfl rfl (g2) rfl rfl ?_
      refine XO.guardF rfl rfl (g2) rfl rfl ?_
      refine XO.guardF rfl rfl (g2) rfl rfl ?_
      refine XO.pickT rfl (g2) rfl rfl ?_
      refine XO.move rfl rfl ?_
      refine XO.guardF rfl rfl (rfl) rfl rfl ?_
      refine XO.guardF rfl rfl (rfl) rfl rfl ?_
      refine XO.guardF rfl rfl (rfl) rfl rfl ?_
      refine XO.guardF rfl rfl (rfl) rfl rfl ?_
      refine XO.guardF rfl rfl (rfl) rfl rfl ?_
      refine XO.guardF rfl rfl (rfl) rfl rfl ?_
      refine XO.guardF rfl rfl (rfl) rfl rfl ?_
      refine XO.pickT rfl (rfl) rfl rfl ?_
      refine XO.nil ?_
      refine XC.seq2 ?_
      refine XC.condT rfl (rfl) ?_
      refine XC.seq ?_
      refine XC.region ?_
      refine XO.assign rfl rfl ?_
      refine XO.nil ?_
      refine XC.seq2 ?_
      refine XC.ret ?_
      refine seqX_ret ?_
      refine ⟨rfl, _, [], rfl, (by repeat (first | exact List.Sublist.refl _ | apply List.Sublist.cons)), RetR.mk ?_⟩
      first | exact congrArg Value.bool (bfalse fun h => by have h9 := sameL_diff hxX hxY hno; have h8 := (sameV_mk.1 h).2; rw [h9] at h8; cases h8).symm | exact congrArg Value.bool (sameV_mk.2 ⟨⟨by simp_all, by simp_all, by simp_all⟩, heq⟩).symm | exact congrArg Value.bool (bfalse fun h => by have h9 := sameV_mk.1 h; have h8 := sameL_len h9.2; simp_all).symm
  · have g1p := of_decide_eq_true g1
    refine XO.guardF rfl rfl (g1) rfl rfl ?_
    refine XO.guardF rfl rfl (g1) rfl rfl ?_
    refine XO.guardF rfl rfl (g1) rfl rfl ?_
    refine XO.guardF rfl rfl (g1) rfl rfl ?_
    refine XO.pickT rfl (g1) rfl rfl ?_
    refine XO.move rfl rfl ?_
    refine XO.guardF rfl rfl (rfl) rfl rfl ?_
    refine XO.guardF rfl rfl (rfl) rfl rfl ?_
    refine XO.guardF rfl rfl (rfl) rfl rfl ?_
    refine XO.guardF rfl rfl (rfl) rfl rfl ?_
    refine XO.guardF rfl rfl (rfl) rfl rfl ?_
    refine XO.pickT rfl (rfl) rfl rfl ?_
    refine XO.move rfl rfl ?_
    refine XO.guardF rfl rfl (rfl) rfl rfl ?_
    refine XO.guardF rfl rfl (rfl) rfl rfl ?_
    refine XO.guardF rfl rfl (rfl) rfl rfl ?_
    refine XO.guardF rfl rfl (rfl) rfl rfl ?_
    refine XO.guardF rfl rfl (rfl) rfl rfl ?_
    refine XO.guardF rfl rfl (rfl) rfl rfl ?_
    refine XO.guardF rfl rfl (rfl) rfl rfl ?_
    refine XO.pickT rfl (rfl) rfl rfl ?_
    refine XO.nil ?_
    refine XC.seq2 ?_
    refine XC.condT rfl (rfl) ?_
    refine XC.seq ?_
    refine XC.region ?_
    refine XO.assign rfl rfl ?_
    refine XO.nil ?_
    refine XC.seq2 ?_
    refine XC.ret ?_
    refine seqX_ret ?_
    refine ⟨rfl, _, [], rfl, (by repeat (first | exact List.Sublist.refl _ | apply List.Sublist.cons)), RetR.mk ?_⟩
    first | exact congrArg Value.bool (bfalse fun h => by have h9 := sameL_diff hxX hxY hno; have h8 := (sameV_mk.1 h).2; rw [h9] at h8; cases h8).symm | exact congrArg Value.bool (sameV_mk.2 ⟨⟨by simp_all, by simp_all, by simp_all⟩, heq⟩).symm | exact congrArg Value.bool (bfalse fun h => by have h9 := sameV_mk.1 h; have h8 := sameL_len h9.2; simp_all).symm

end Go.Proofs

/- The walks of the functions of the codec: what each of them computes, at any input. -/
set_option autoImplicit false
set_option linter.unusedVariables false
set_option linter.unusedSimpArgs false
namespace Go.Proofs
open Go.XL

theorem bf_24 : structF Try.prog 24 = some [(0, 1), (1, 1), (2, 1), (3, 1)] := by kernel_rfl
theorem bk_24 : structK Try.prog 24 = true := by kernel_rfl

theorem count_all : ∀ (D : Nat) (k n : Int) (s : List UInt8) (l : List Val) (a : Option Addr) (c : Nat) (H : Hp), D ≤ 30 → Fit (.mk k n s l) → SlR valR H a c l → FnC Try.prog 36 #[.agg ⟨[.int .i64 k, .int .i64 n, .string (bsOf s), .slice a l.length c]⟩, .int .i64 ((D : Nat) - 1 : Int)] H [] (RetR fun v _ _ => ∃ q : Int, v = .int .i64 q ∧ 1 ≤ q ∧ q ≤ 50000000000000000 + 1000 * D ∧ (q < 1000 → ((wszV (.mk k n s l) : Nat) : Int) ≤ 220 * q)) := by
  intro D
  refine Nat.strongRecOn D ?_
  clear D
  intro D ih k n s l a c H hD hfit hs
  obtain ⟨f1, f2, f3, f4⟩ := hfit.of
  refine FnC.intro (args := [.agg ⟨[.int .i64 k, .int .i64 n, .string (bsOf s), .slice a l.length c]⟩, .int .i64 ((D : Nat) - 1 : Int)]) Try.func36 rfl rfl Try.ntmps36 rfl rfl rfl fun G rest => ?_
  refine XC.seq ?_
  refine XC.region ?_
  refine XO.box rfl rfl rfl (fun b2 => ?_)
  refine XO.assign rfl rfl ?_
  refine XO.nil ?_
  refine XC.seq2 ?_
  refine XC.seq ?_
  refine XC.region ?_
  refine XO.fieldAddr rfl fa_24_2 rfl ?_
  refine XO.loadO 0 rfl rfl ty_9 rfl rfl rfl ?_
  refine XO.lenStr rfl Try.underlying9 (by omega) rfl ?_
  refine XO.quo (c := ((s.length / 200 : Nat) : Int)) rfl rfl (by decide) ((quo_i64 (by omega) (by decide) (by omega)).trans (by omega)) rfl ?_
  refine XO.add rfl rfl (wrap_i64 (by omega) (by omega)) rfl ?_
  refine XO.assign rfl rfl ?_
  refine XO.nil ?_
  refine XC.seq2 ?_
  refine XC.seq ?_
  refine XC.seq ?_
  refine XC.region ?_
  refine XO.move rfl rfl ?_
  refine XO.lss rfl rfl rfl ?_
  refine XO.move rfl rfl ?_
  refine XO.guardC rfl rfl rfl rfl (fun g2 => ?_) (fun g2 => ?_)
  · have g2p := of_decide_eq_false g2
    refine XO.fieldAddr rfl fa_24_3 rfl ?_
    refine XO.guardT rfl rfl (g2) rfl ?_
    refine XO.loadO 0 rfl rfl ty_22 rfl rfl rfl ?_
    refine XO.guardT rfl rfl (g2) rfl ?_
    refine XO.lenS (ts := #[]) rfl Try.underlying22 rfl ?_
    refine XO.guardT rfl rfl (g2) rfl ?_
    refine XO.gtr rfl rfl rfl ?_
    refine XO.pickF rfl (g2) rfl rfl ?_
    refine XO.nil ?_
    refine XC.seq2 ?_
    refine XC.cond rfl (fun c0_3 => ?_) (fun c0_3 => ?_)
    · refine XC.seq ?_
      refine XC.region ?_
      refine XO.assign rfl rfl ?_
      refine XO.nil ?_
      refine XC.seq2 ?_
      refine XC.ret ?_
      refine seqX_ret ?_
      refine ⟨rfl, _, [], rfl, (by repeat (first | exact List.Sublist.refl _ | apply List.Sublist.cons)), RetR.mk ?_⟩
      first | exact ⟨1000, rfl, by omega, by omega, fun h => absurd h (by omega)⟩ | exact ⟨q, rfl, hq1, hq2, fun h => absurd h (by omega)⟩ | exact ⟨q, rfl, hq1, hq2, fun h => by have h1 := hq3 h; rw [List.take_of_length_le (by omega)] at h1; rw [wszV]; exact h1⟩
    · obtain ⟨E, rfl⟩ : ∃ E, D = E + 1 := ⟨D - 1, by omega⟩
      refine XC.skip ?_
      refine XC.seq2 ?_
      refine XC.seq ?_
      refine XC.seq ?_
      refine XC.region ?_
      refine XO.assign rfl rfl ?_
      refine XO.nil ?_
      refine XC.seq2 ?_
      refine XC.block ?_
      refine XC.keep [5, 6, 1, 2] rfl ?_
      refine XC.loop (base := [(1, _), (2, _)]) (fun ζ : Nat × (Int) => [(5, .int .i64 ζ.2), (6, .int .i64 (ζ.1 : Nat))]) (fun ζ Hl own => ζ.1 ≤ l.length ∧ (b2, .cells 24 [.int .i64 k, .int .i64 n, .string (bsOf s), .slice a l.length c]) :: rest = own ∧ (1 ≤ ζ.2) ∧ (ζ.2 ≤ 50000000000000000 + 1000 * (E + 1 : Nat)) ∧ (ζ.2 < 1000 → ((20 + s.length + wszL (l.take ζ.1) : Nat) : Int) ≤ 220 * ζ.2)) (fun ζ => l.length - ζ.1) (0, (1 + ((s.length / 200 : Nat) : Int))) (prov_cons (rfl) (prov_cons (rfl) (prov_cons (rfl) (prov_cons (rfl) prov_nil)))) (by repeat (first | exact List.Sublist.refl _ | apply List.Sublist.cons_cons | apply List.Sublist.cons)) ⟨Nat.zero_le _, rfl, by omega, by omega, by simp [wszL]; omega⟩ ?_
      rintro ⟨i, q⟩ Hl0 _ hle0 ⟨hki, rfl, hq1, hq2, hq3⟩
      replace hs := hs.mono hle0
      try dsimp only at hki hq1 hq2 hq3 ⊢
      refine XC.seq ?_
      refine XC.seq ?_
      refine XC.region ?_
      refine XO.move rfl rfl ?_
      refine XO.fieldAddr rfl fa_24_3 rfl ?_
      refine XO.loadO 0 rfl rfl ty_22 rfl rfl rfl ?_
      refine XO.lenS (ts := #[]) rfl Try.underlying22 rfl ?_
      refine XO.lss rfl rfl rfl ?_
      refine XO.move rfl rfl ?_
      refine XO.guardC rfl rfl rfl rfl (fun g4 => ?_) (fun g4 => ?_)
      · have g4p := of_decide_eq_true g4
        refine XO.move rfl rfl ?_
        refine XO.guardT rfl rfl (g4) rfl ?_
        refine XO.leq rfl rfl rfl ?_
        refine XO.pickT rfl (g4) rfl rfl ?_
        refine XO.nil ?_
        refine XC.seq2 ?_
        refine XC.cond rfl (fun c1_5 => ?_) (fun c1_5 => ?_)
        · refine XC.skip ?_
          refine XC.seq2 ?_
          refine XC.seq ?_
          refine XC.block ?_
          refine XC.region ?_
          refine XO.move rfl rfl ?_
          refine XO.fieldAddr rfl fa_24_3 rfl ?_
          refine XO.loadO 0 rfl rfl ty_22 rfl rfl rfl ?_
          refine XO.move rfl rfl ?_
          refine XO.indexN rfl hs rfl Try.underlying22 ty_24 (by omega) rfl ?_
          rintro eb35 eo35 _ x35 hx35 hR35 hp35
          obtain ⟨k35, n35, s35, l35⟩ := x35
          obtain ⟨a35, c35, rfl, hd35⟩ := valR_iff.1 hR35
          refine XO.loadH rfl (by assumption) ty_24 rfl rfl rfl ?_
          refine XO.move rfl rfl ?_
          refine XO.sub (c := ((E : Nat) : Int) - 1) rfl rfl ((wrap_i64 (by omega) (by omega)).trans (by omega)) rfl ?_
          have hcall := ih E (by omega) k35 n35 s35 l35 a35 c35 _ (by omega) (f4 _ (List.mem_of_getElem? hx35)) hd35
          refine XO.callK rfl hcall rfl ?_
          rintro _ ⟨qx, rfl, r1, r2, r3⟩
          refine XO.add rfl rfl (wrap_i64 (by omega) (by omega)) rfl ?_
          refine XO.assign rfl rfl ?_
          refine XO.nil ?_
          refine blockN ?_
          refine XC.seq2 ?_
          refine XC.region ?_
          refine XO.move rfl rfl ?_
          refine XO.add rfl rfl (wrap_i64 (by omega) (by omega)) rfl ?_
          refine XO.assign rfl rfl ?_
          refine XO.nil ?_
          refine loop_next ((i + 1, q + qx)) (by show l.length - (i + 1) < l.length - i; omega) (prov_cons (rfl) (prov_cons (rfl) (prov_cons (rfl) (prov_cons (rfl) prov_nil)))) (⟨by show i + 1 ≤ l.length; omega, rfl, by (try dsimp only); omega, by (try dsimp only); omega, by (try dsimp only); intro h; have h1 := hq3 (by omega); have h2 := r3 (by omega); rw [take_snoc hx35, wszL_snoc]; omega⟩) (by repeat (first | exact List.Sublist.refl _ | apply List.Sublist.cons_cons | apply List.Sublist.cons)) (hle0)
        · refine XC.exit ?_
          refine seqX_exit ?_
          refine loopX_exit ?_
          refine blockHit rfl ?_
          refine XC.seq2 ?_
          refine XC.seq ?_
          refine XC.region ?_
          refine XO.move rfl rfl ?_
          refine XO.assign rfl rfl ?_
          refine XO.nil ?_
          refine XC.seq2 ?_
          refine XC.ret ?_
          refine ⟨rfl, _, [], rfl, (by repeat (first | exact List.Sublist.refl _ | apply List.Sublist.cons)), RetR.mk ?_⟩
          first | exact ⟨1000, rfl, by omega, by omega, fun h => absurd h (by omega)⟩ | exact ⟨q, rfl, hq1, hq2, fun h => absurd h (by omega)⟩ | exact ⟨q, rfl, hq1, hq2, fun h => by have h1 := hq3 h; rw [List.take_of_length_le (by omega)] at h1; rw [wszV]; exact h1⟩
      · have g4p := of_decide_eq_false g4
        refine XO.guardF rfl rfl (g4) rfl rfl ?_
        refine XO.pickF rfl (g4) rfl rfl ?_
        refine XO.nil ?_
        refine XC.seq2 ?_
        refine XC.condF rfl (rfl) ?_
        refine XC.exit ?_
        refine seqX_exit ?_
        refine loopX_exit ?_
        refine blockHit rfl ?_
        refine XC.seq2 ?_
        refine XC.seq ?_
        refine XC.region ?_
        refine XO.move rfl rfl ?_
        refine XO.assign rfl rfl ?_
        refine XO.nil ?_
        refine XC.seq2 ?_
        refine XC.ret ?_
        refine ⟨rfl, _, [], rfl, (by repeat (first | exact List.Sublist.refl _ | apply List.Sublist.cons)), RetR.mk ?_⟩
        first | exact ⟨1000, rfl, by omega, by omega, fun h => absurd h (by omega)⟩ | exact ⟨q, rfl, hq1, hq2, fun h => absurd h (by omega)⟩ | exact ⟨q, rfl, hq1, hq2, fun h => by have h1 := hq3 h; rw [List.take_of_length_le (by omega)] at h1; rw [wszV]; exact h1⟩
  · have g2p := of_decide_eq_true g2
    refine XO.guardF rfl rfl (g2) rfl rfl ?_
    refine XO.guardF rfl rfl (g2) rfl rfl ?_
    refine XO.guardF rfl rfl (g2) rfl rfl ?_
    refine XO.pickT rfl (g2) rfl rfl ?_
    refine XO.nil ?_
    refine XC.seq2 ?_
    refine XC.condT rfl (rfl) ?_
    refine XC.seq ?_
    refine XC.region ?_
    refine XO.assign rfl rfl ?_
    refine XO.nil ?_
    refine XC.seq2 ?_
    refine XC.ret ?_
    refine seqX_ret ?_
    refine ⟨rfl, _, [], rfl, (by repeat (first | exact List.Sublist.refl _ | apply List.Sublist.cons)), RetR.mk ?_⟩
    first | exact ⟨1000, rfl, by omega, by omega, fun h => absurd h (by omega)⟩ | exact ⟨q, rfl, hq1, hq2, fun h => absurd h (by omega)⟩ | exact ⟨q, rfl, hq1, hq2, fun h => by have h1 := hq3 h; rw [List.take_of_length_le (by omega)] at h1; rw [wszV]; exact h1⟩

theorem few1_fn (k n : Int) (s : List UInt8) (l : List Val) (a : Option Addr) (c : Nat) (H : Hp) (hf : Fit (.mk k n s l)) (hs : SlR valR H a c l) : FnC Try.prog 25 #[.agg ⟨[.int .i64 k, .int .i64 n, .string (bsOf s), .slice a l.length c]⟩, .int .i64 20] H [] (RetR (fun v _ _ => ∃ b : Bool, v = .bool b ∧ (b = true → wszV (.mk k n s l) ≤ 44000))) := by
  refine FnC.intro (args := [.agg ⟨[.int .i64 k, .int .i64 n, .string (bsOf s), .slice a l.length c]⟩, .int .i64 20]) Try.func25 rfl rfl Try.ntmps25 rfl rfl rfl fun G rest => ?_
  refine XC.seq ?_
  refine XC.region ?_
  refine XO.box rfl rfl rfl (fun b2 => ?_)
  refine XO.assign rfl rfl ?_
  refine XO.nil ?_
  refine XC.seq2 ?_
  refine XC.seq ?_
  refine XC.region ?_
  refine XO.loadO 0 rfl rfl ty_24 rfl rfl rfl ?_
  refine XO.move rfl rfl ?_
  have hcall : FnC Try.prog 36 #[.agg ⟨[.int .i64 k, .int .i64 n, .string (bsOf s), .slice a l.length c]⟩, .int .i64 20] H [] _ := count_all 21 k n s l a c _ (by omega) hf hs
  refine XO.callK rfl hcall rfl ?_
  rintro _ ⟨q, rfl, r1, r2, r3⟩
  refine XO.leq rfl rfl rfl ?_
  refine XO.assign rfl rfl ?_
  refine XO.nil ?_
  refine XC.seq2 ?_
  refine XC.ret ?_
  refine ⟨rfl, _, [], rfl, (by repeat (first | exact List.Sublist.refl _ | apply List.Sublist.cons)), RetR.mk ?_⟩
  exact ⟨_, rfl, fun h => by have h1 := r3 (by have := of_decide_eq_true h; omega); have := of_decide_eq_true h; omega⟩

theorem few_fn (a0 : Option Addr) (c0 : Nat) (l0 : List Val) (H : Hp) (hs : SlR valR H a0 c0 l0) (hf : ∀ x ∈ l0, Fit x) (hl : l0.length < 9223372036854775808) : FnC Try.prog 11 #[.slice a0 l0.length c0] H [] (RetR (fun v _ _ => ∃ b : Bool, v = .bool b ∧ (b = true → ∀ x ∈ l0, wszV x ≤ 44000))) := by
  refine FnC.intro (args := [.slice a0 l0.length c0]) Try.func11 rfl rfl Try.ntmps11 rfl rfl rfl fun G rest => ?_
  refine XC.seq ?_
  refine XC.region ?_
  refine XO.assign rfl rfl ?_
  refine XO.nil ?_
  refine XC.seq2 ?_
  refine XC.seq ?_
  refine XC.seq ?_
  refine XC.region ?_
  refine XO.move rfl rfl ?_
  refine XO.lenS (ts := #[]) rfl Try.underlying22 rfl ?_
  refine XO.move rfl rfl ?_
  refine XO.nil ?_
  refine XC.seq2 ?_
  refine XC.block ?_
  refine XC.keep [7, 5, 6] rfl ?_
  refine XC.loop (base := [(5, _), (6, _)]) (fun ζ : Nat => [(7, .int .i64 (ζ : Nat))]) (fun ζ Hl own => ζ ≤ l0.length ∧ rest = own ∧ (∀ x ∈ l0.take ζ, wszV x ≤ 44000)) (fun ζ => l0.length - ζ) 0 (prov_cons (rfl) (prov_cons (rfl) (prov_cons (rfl) prov_nil))) (by repeat (first | exact List.Sublist.refl _ | apply List.Sublist.cons_cons | apply List.Sublist.cons)) ⟨Nat.zero_le _, rfl, by simp⟩ ?_
  rintro i Hl0 _ hle0 ⟨hki, rfl, hok⟩
  replace hs := hs.mono hle0
  try dsimp only at ⊢
  refine XC.seq ?_
  refine XC.region ?_
  refine XO.lss rfl rfl rfl ?_
  refine XO.nil ?_
  refine XC.seq2 ?_
  refine XC.seq ?_
  refine XC.cond rfl (fun c0_1 => ?_) (fun c0_1 => ?_)
  · refine XC.skip ?_
    refine XC.seq2 ?_
    refine XC.seq ?_
    refine XC.block ?_
    refine XC.seq ?_
    refine XC.region ?_
    refine XO.indexN rfl hs rfl Try.underlying22 ty_24 (by omega) rfl ?_
    rintro eb9 eo9 _ x9 hx9 hR9 hp9
    obtain ⟨k9, n9, s9, l9⟩ := x9
    obtain ⟨a9, c9, rfl, hd9⟩ := valR_iff.1 hR9
    refine XO.loadH rfl (by assumption) ty_24 rfl rfl rfl ?_
    refine XO.alloc ze_24 rfl (fun b4 => ?_)
    refine XO.storeO 0 rfl rfl rfl rfl ty_24 rfl rfl rfl rfl rfl ?_
    refine XO.nil ?_
    refine XC.seq2 ?_
    refine XC.seq ?_
    refine XC.region ?_
    refine XO.loadO 0 rfl rfl ty_24 rfl rfl rfl ?_
    have hcall := few1_fn k9 n9 s9 l9 a9 c9 _ (hf _ (List.mem_of_getElem? hx9)) hd9
    refine XO.callK rfl hcall rfl ?_
    rintro _ ⟨bq, rfl, r1⟩
    refine XO.notB rfl rfl ?_
    refine XO.nil ?_
    refine XC.seq2 ?_
    refine XC.condB rfl (fun c1_4 => ?_) (fun c1_4 => ?_)
    · refine XC.seq ?_
      refine XC.region ?_
      refine XO.assign rfl rfl ?_
      refine XO.nil ?_
      refine XC.seq2 ?_
      refine XC.ret ?_
      refine blockR ?_
      refine seqX_ret ?_
      refine loopX_ret ?_
      refine blockR ?_
      refine seqX_ret ?_
      refine ⟨rfl, _, [], rfl, (by repeat (first | exact List.Sublist.refl _ | apply List.Sublist.cons)), RetR.mk ?_⟩
      exact ⟨false, rfl, fun h => by cases h⟩
    · refine XC.skip ?_
      refine blockN ?_
      refine XC.seq2 ?_
      refine XC.region ?_
      refine XO.add rfl rfl (wrap_i64 (by omega) (by omega)) rfl ?_
      refine XO.move rfl rfl ?_
      refine XO.nil ?_
      refine loop_next (i + 1) (by show l0.length - (i + 1) < l0.length - i; omega) (prov_cons (rfl) (prov_cons (rfl) (prov_cons (rfl) prov_nil))) (⟨by show i + 1 ≤ l0.length; omega, rfl, all_snocP (p := fun x => wszV x ≤ 44000) hok hx9 (r1 (by simp_all))⟩) (by repeat (first | exact List.Sublist.refl _ | apply List.Sublist.cons_cons | apply List.Sublist.cons)) (hle0)
  · obtain rfl : i = l0.length := by omega
    rw [List.take_length] at hok
    refine XC.exit ?_
    refine seqX_exit ?_
    refine loopX_exit ?_
    refine blockHit rfl ?_
    refine XC.seq2 ?_
    refine XC.seq ?_
    refine XC.region ?_
    refine XO.assign rfl rfl ?_
    refine XO.nil ?_
    refine XC.seq2 ?_
    refine XC.ret ?_
    refine ⟨rfl, _, [], rfl, (by repeat (first | exact List.Sublist.refl _ | apply List.Sublist.cons)), RetR.mk ?_⟩
    exact ⟨true, rfl, fun _ => hok⟩

theorem list_fn (a : Option Addr) (c : Nat) (l : List Val) (H : Hp) : FnC Try.prog 22 #[.slice a l.length c] H [] (RetR (fun v _ _ => v = .agg ⟨[.int .i64 3, .int .i64 0, .string (bsOf []), .slice a l.length c]⟩)) := by
  refine FnC.introC (args := [.slice a l.length c]) Try.func22 rfl rfl Try.ntmps22 rfl rfl rfl fun G rest => ?_
  refine XC.seq ?_
  refine XC.region ?_
  refine XO.alloc ze_24 rfl (fun b2 => ?_)
  refine XO.nil ?_
  refine XC.seq2 ?_
  refine XC.seq ?_
  refine XC.region ?_
  refine XO.move rfl rfl ?_
  refine XO.build bk_24 bf_24 ze_24 rfl rfl rfl ?_
  refine XO.storeO 0 rfl rfl rfl rfl ty_24 rfl rfl rfl rfl rfl ?_
  refine XO.nil ?_
  refine XC.seq2 ?_
  refine XC.ret ?_
  refine ⟨rfl, _, [], (resC_cell 0 rfl rfl ty_24 rfl rfl resC_nil), (by repeat (first | exact List.Sublist.refl _ | apply List.Sublist.cons)), RetR.mk ?_⟩
  rfl

theorem int_fn (n : Int) (H : Hp) : FnC Try.prog 23 #[.int .i64 n] H [] (RetR (fun v _ _ => v = .agg ⟨[.int .i64 1, .int .i64 n, .string (bsOf []), .slice none 0 0]⟩)) := by
  refine FnC.introC (args := [.int .i64 n]) Try.func23 rfl rfl Try.ntmps23 rfl rfl rfl fun G rest => ?_
  refine XC.seq ?_
  refine XC.region ?_
  refine XO.alloc ze_24 rfl (fun b2 => ?_)
  refine XO.nil ?_
  refine XC.seq2 ?_
  refine XC.seq ?_
  refine XC.region ?_
  refine XO.move rfl rfl ?_
  refine XO.build bk_24 bf_24 ze_24 rfl rfl rfl ?_
  refine XO.storeO 0 rfl rfl rfl rfl ty_24 rfl rfl rfl rfl rfl ?_
  refine XO.nil ?_
  refine XC.seq2 ?_
  refine XC.ret ?_
  refine ⟨rfl, _, [], (resC_cell 0 rfl rfl ty_24 rfl rfl resC_nil), (by repeat (first | exact List.Sublist.refl _ | apply List.Sublist.cons)), RetR.mk ?_⟩
  rfl

theorem text_fn (s : List UInt8) (H : Hp) : FnC Try.prog 24 #[.string (bsOf s)] H [] (RetR (fun v _ _ => v = .agg ⟨[.int .i64 2, .int .i64 0, .string (bsOf s), .slice none 0 0]⟩)) := by
  refine FnC.introC (args := [.string (bsOf s)]) Try.func24 rfl rfl Try.ntmps24 rfl rfl rfl fun G rest => ?_
  refine XC.seq ?_
  refine XC.region ?_
  refine XO.alloc ze_24 rfl (fun b2 => ?_)
  refine XO.nil ?_
  refine XC.seq2 ?_
  refine XC.seq ?_
  refine XC.region ?_
  refine XO.move rfl rfl ?_
  refine XO.build bk_24 bf_24 ze_24 rfl rfl rfl ?_
  refine XO.storeO 0 rfl rfl rfl rfl ty_24 rfl rfl rfl rfl rfl ?_
  refine XO.nil ?_
  refine XC.seq2 ?_
  refine XC.ret ?_
  refine ⟨rfl, _, [], (resC_cell 0 rfl rfl ty_24 rfl rfl resC_nil), (by repeat (first | exact List.Sublist.refl _ | apply List.Sublist.cons)), RetR.mk ?_⟩
  rfl

theorem num_fn (po : Nat × SObj) (ao : Option Addr) (co : Nat) (l0 : List UInt8) (u : Nat) (H : Hp) (hacc : AccB H po ao co l0) (hu : u < 18446744073709551616) (hl : l0.length ≤ 100000000) : FnC Try.prog 38 #[.slice ao l0.length co, .int .u64 (u : Nat)] H [po] (RetR (fun v H2 own => ∃ po2 a2 c2, own = [po2] ∧ v = .slice a2 (l0 ++ numL u).length c2 ∧ AccB H2 po2 a2 c2 (l0 ++ numL u))) := by
  refine FnC.intro (args := [.slice ao l0.length co, .int .u64 (u : Nat)]) Try.func38 rfl rfl Try.ntmps38 rfl rfl rfl fun G rest => ?_
  have hnu := numL_10 (u := u) hu
  refine XC.seq ?_
  refine XC.region ?_
  refine XO.assign rfl rfl ?_
  refine XO.nil ?_
  refine XC.seq2 ?_
  refine XC.seq ?_
  refine XC.block ?_
  refine XC.keep [0, 1] rfl ?_
  refine XC.loop (base := []) (fun ζ : Nat × (Nat) × (List UInt8) × ((Nat × SObj) × Option Addr × Nat) => [(0, .slice ζ.2.2.2.2.1 (ζ.2.2.1).length ζ.2.2.2.2.2), (1, .int .u64 (ζ.2.1 : Nat))]) (fun ζ Hl own => ζ.2.2.2.1 :: rest = own ∧ Acc u8R 5 Hl ζ.2.2.2.1 ζ.2.2.2.2.1 ζ.2.2.2.2.2 (ζ.2.2.1) ∧ (ζ.2.2.1 ++ numL ζ.2.1 = l0 ++ numL u) ∧ (ζ.2.1 < 18446744073709551616)) (fun ζ => ζ.2.1) (0, u, l0, (po, ao, co)) (prov_cons (rfl) (prov_cons (rfl) prov_nil)) (by repeat (first | exact List.Sublist.refl _ | apply List.Sublist.cons_cons | apply List.Sublist.cons)) ⟨rfl, hacc, rfl, hu⟩ ?_
  rintro ⟨q, w, o, ⟨po, ao, co⟩⟩ Hl0 _ hle0 ⟨rfl, hacco, hwo, hwu⟩
  try dsimp only at hacco hwo hwu ⊢
  have hlo : o.length ≤ l0.length + 10 := by have := congrArg List.length hwo; rw [List.length_append, List.length_append] at this; omega
  refine XC.seq ?_
  refine XC.seq ?_
  refine XC.region ?_
  refine XO.move rfl rfl ?_
  refine XO.geq rfl rfl rfl ?_
  refine XO.nil ?_
  refine XC.seq2 ?_
  refine XC.cond rfl (fun c0_1 => ?_) (fun c0_1 => ?_)
  · refine XC.skip ?_
    refine XC.seq2 ?_
    refine XC.seq ?_
    refine XC.block ?_
    refine XC.region ?_
    refine XO.move rfl rfl ?_
    refine XO.move rfl rfl ?_
    refine XO.convI (c := ((w % 256 : Nat) : Int)) rfl Try.underlying68 Try.underlying5 (by rw [wrap_u8_mod]; omega) rfl ?_
    refine XO.bor rfl rfl rfl ?_
    rw [or_bits]
    refine XO.buildSlice rfl Try.underlying27 ty_5 ze_5 rfl rfl rfl (fun b13 => ?_)
    refine XO.publish 0 rfl rfl rfl (fun HP13 oP13 hleP13 hbP13 hoP13 => ?_)
    have hsl13 := SlR.lit (ρ := u8R) (l := [UInt8.ofNat (w % 128 + 128)]) hbP13 hoP13 (RowsR.one1 rfl)
    replace hacco := hacco.mono hleP13
    replace hle0 := hle0.trans hleP13
    refine XO.appendA 0 rfl rfl hacco rfl rfl hsl13 rfl Try.underlying27 ty_5 ze_5 rfl by_5 (by simp; omega) rfl (fun p14 a14 c14 hacc14 => ?_)
    refine XO.assign rfl rfl ?_
    refine XO.nil ?_
    refine blockN ?_
    refine XC.seq2 ?_
    refine XC.region ?_
    refine XO.move rfl rfl ?_
    refine XO.shr rfl rfl (by decide) rfl ?_
    rw [shr7]
    refine XO.assign rfl rfl ?_
    refine XO.nil ?_
    refine loop_next ((q, w / 128, o ++ [UInt8.ofNat (w % 128 + 128)], (p14, a14, c14))) (by show w / 128 < w; omega) (prov_cons (by first | rfl) (prov_cons (rfl) prov_nil)) (⟨rfl, by first | (exact hacc14), (numL_yes (by omega) o).trans hwo, by (try dsimp only); omega⟩) (by repeat (first | exact List.Sublist.refl _ | apply List.Sublist.cons_cons | apply List.Sublist.cons)) (hle0)
  · rw [numL_last (by omega)] at hwo
    refine XC.exit ?_
    refine seqX_exit ?_
    refine loopX_exit ?_
    refine blockHit rfl ?_
    refine XC.seq2 ?_
    refine XC.seq ?_
    refine XC.region ?_
    refine XO.move rfl rfl ?_
    refine XO.move rfl rfl ?_
    refine XO.convI (c := (((UInt8.ofNat w).toNat : Nat) : Int)) rfl Try.underlying68 Try.underlying5 (by rw [ofNat_toNat (by omega)]; exact wrap_u8 (by omega) (by omega)) rfl ?_
    refine XO.buildSlice rfl Try.underlying27 ty_5 ze_5 rfl rfl rfl (fun b18 => ?_)
    refine XO.publish 0 rfl rfl rfl (fun HP18 oP18 hleP18 hbP18 hoP18 => ?_)
    have hsl18 := SlR.lit (ρ := u8R) (l := [UInt8.ofNat w]) hbP18 hoP18 (RowsR.one1 rfl)
    replace hacco := hacco.mono hleP18
    replace hle0 := hle0.trans hleP18
    refine XO.appendA 0 rfl rfl hacco rfl rfl hsl18 rfl Try.underlying27 ty_5 ze_5 rfl by_5 (by simp; omega) rfl (fun p19 a19 c19 hacc19 => ?_)
    refine XO.assign rfl rfl ?_
    refine XO.nil ?_
    refine XC.seq2 ?_
    refine XC.ret ?_
    refine ⟨rfl, _, [_], rfl, (by repeat (first | exact List.Sublist.refl _ | apply List.Sublist.cons)), RetR.mk ?_⟩
    rw [← hwo]
    exact ⟨_, _, _, rfl, rfl, by assumption⟩

end Go.Proofs
