/- Tables whose rows are the call's own: a slice of slices, each of them still to be written. No statement of the program stands here. -/
import Derived.Test.YtbfleiickdobnaaXMb
set_option autoImplicit false
set_option linter.unusedSimpArgs false
set_option linter.unusedVariables false
namespace Go.XL
abbrev Raw := Option Addr × Nat × Nat
/-- a slice as such, whatever lies behind it -/
def rawR : Rep Raw where
  sz := 1
  R := fun _ cs r => cs = [.slice r.1 r.2.1 r.2.2]
  len := fun h => by subst h; rfl
  one := fun h => by subst h; rfl
  mono := fun _ h => h
structure RowO (α : Type) where
  p : Nat × SObj
  a : Option Addr
  c : Nat
  l : List α
def RowO.raw {α : Type} (r : RowO α) : Raw := (r.a, r.l.length, r.c)
def RowsO {α : Type} (ρ : Rep α) (T : TypeId) (H : Hp) (rs : List (RowO α)) : Prop := ∀ r ∈ rs, Acc ρ T H r.p r.a r.c r.l
section
variable {α : Type} {ρ : Rep α} {T : TypeId} {H H' : Hp} {rs : List (RowO α)}
theorem RowsO.mono (h : RowsO ρ T H rs) (hle : Le H H') : RowsO ρ T H' rs := fun r hr => (h r hr).mono hle
theorem RowsO.nil : RowsO ρ T H [] := fun r hr => by cases hr
theorem RowsO.snoc (h : RowsO ρ T H rs) {r : RowO α} (hr : Acc ρ T H r.p r.a r.c r.l) : RowsO ρ T H (rs ++ [r]) := by
  intro q hq
  rcases List.mem_append.1 hq with hq | hq
  · exact h q hq
  · simp at hq; subst hq; exact hr
theorem RowsO.set (h : RowsO ρ T H rs) (i : Nat) {r : RowO α} (hr : Acc ρ T H r.p r.a r.c r.l) : RowsO ρ T H (rs.set i r) := by
  intro q hq
  rcases List.mem_or_eq_of_mem_set hq with hq | hq
  · exact h q hq
  · subst hq; exact hr
theorem rows_at {rest : Own} {r : RowO α} : ∀ {rs : List (RowO α)} {i : Nat}, rs[i]? = some r → Own.at (rs.map RowO.p ++ rest) i = some r.p
  | [], i, h => by simp at h
  | q :: rs, 0, h => by simp at h; subst h; rfl
  | q :: rs, i + 1, h => rows_at (rs := rs) (i := i) (by simpa using h)
theorem rows_set {rest : Own} {r' : RowO α} : ∀ {rs : List (RowO α)} {i : Nat}, i < rs.length → Own.set2 (rs.map RowO.p ++ rest) i r'.p = (rs.set i r').map RowO.p ++ rest
  | [], i, h => by simp at h
  | q :: rs, 0, h => rfl
  | q :: rs, i + 1, h => by
    have := rows_set (rest := rest) (r' := r') (rs := rs) (i := i) (by simpa using h)
    simp only [List.map_cons, List.cons_append, Own.set2, List.set_cons_succ, this]
theorem RowsR.ofRaw (h2 : ∀ r ∈ rs, SlR ρ H r.a r.c r.l) : ∀ {xs : List Value}, RowsR rawR H xs (rs.map RowO.raw) → RowsR (slR ρ) H xs (rs.map RowO.l) := by
  induction rs with
  | nil => intro xs h; exact h
  | cons r rs ih =>
    rintro xs ⟨c1, c2, rfl, h3, h4⟩
    exact ⟨c1, c2, rfl, ⟨_, _, h3, h2 r (by simp)⟩, ih (fun q hq => h2 q (by simp [hq])) h4⟩
theorem Acc.ofRaw {T2 : TypeId} {px : Nat × SObj} {ax : Option Addr} {cx : Nat} (h : Acc rawR T2 H px ax cx (rs.map RowO.raw)) (h2 : ∀ r ∈ rs, SlR ρ H r.a r.c r.l) : Acc (slR ρ) T2 H px ax cx (rs.map RowO.l) := by
  rcases h with ⟨h3, h4, h5, h6⟩ | ⟨xs, h3, h4, h5, h6⟩
  · exact .inl ⟨h3, h4, by simpa using h5, h6⟩
  · exact .inr ⟨xs, h3, h4, RowsR.ofRaw h2 h5, by simpa using h6⟩
theorem publish_rows {G : World} {w : World} {fr : Own} : ∀ (rs : List (RowO α)) (H : Hp), Ok G H (rs.map RowO.p ++ fr) w → RowsO ρ T H rs → ∃ H', Le H H' ∧ (∀ r ∈ rs, SlR ρ H' r.a r.c r.l) ∧ Ok G H' fr w
  | [], H, hok, _ => ⟨H, Le.refl _, by simp, hok⟩
  | r :: rs, H, hok, hr => by
    obtain ⟨H1, hle1, hs1, hok1⟩ := publishA_aux (own := r.p :: rs.map RowO.p) (i := 0) hok rfl (hr r (by simp)) rfl
    obtain ⟨H2, hle2, hs2, hok2⟩ := publish_rows rs H1 hok1 (fun q hq => (hr q (by simp [hq])).mono hle1)
    refine ⟨H2, hle1.trans hle2, ?_, hok2⟩
    intro q hq
    rcases List.mem_cons.1 hq with rfl | hq
    · exact hs1.mono hle2
    · exact hs2 q hq
end
section
variable {C : Ctx} {ops : Array Oper} {Q : Exit → St → Prop} {rest : List Oper} {env : Env} {df : List Deferred} {H : Hp} {rst : Own} {α : Type} {ρ : Rep α} {T T2 : TypeId} {rs : List (RowO α)} {px : Nat × SObj} {ax : Option Addr} {cx : Nat}
theorem XO.publishT (hout : Acc rawR T2 H px ax cx (rs.map RowO.raw)) (hrows : RowsO ρ T H rs) (h : ∀ H', Le H H' → SlR (slR ρ) H' ax cx (rs.map RowO.l) → XO C ops Q rest ⟨env, df, H', rst⟩) :
    XO C ops Q rest ⟨env, df, H, px :: (rs.map RowO.p ++ rst)⟩ := by
  intro act w hr
  obtain ⟨ms, hdf, hok⟩ := hr.ok
  have hok1 : Ok C.G H (rs.map RowO.p ++ (px :: (rst ++ (ms.map hid ++ C.hid)))) w := hok.perm (by
    simp only [List.cons_append, List.append_assoc]; exact List.perm_middle)
  obtain ⟨H1, hle1, hs1, hok2⟩ := publish_rows rs H hok1 hrows
  obtain ⟨H2, hle2, hs2, hok3⟩ := publishA_aux (own := [px]) (i := 0) hok2 rfl (Acc.ofRaw (hout.mono hle1) hs1) rfl
  exact wpList_mono (hle1.trans hle2) _ _ _ (h H2 (hle1.trans hle2) hs2 act w ⟨hr.size, hr.get, ms, hdf, hok3⟩)
theorem perm_row {r : RowO α} {q : Nat × SObj} : (r.p :: q :: (rs.map RowO.p ++ rst)).Perm (q :: ((rs ++ [r]).map RowO.p ++ rst)) := by
  refine (List.Perm.swap _ _ _).trans (List.Perm.cons q ?_)
  rw [List.map_append, List.append_assoc]; exact List.perm_middle.symm
theorem set_raw {r r' : RowO α} (he : r'.raw = r.raw) : ∀ {rs : List (RowO α)} {i : Nat}, rs[i]? = some r → (rs.set i r').map RowO.raw = rs.map RowO.raw
  | [], i, h => by simp at h
  | q :: rs, 0, h => by simp at h; subst h; simp [he]
  | q :: rs, i + 1, h => by
    have := set_raw he (rs := rs) (i := i) (by simpa using h)
    simp [this]
end
end Go.XL
