/- The logic's rules for append, slicing and slices of the call's own. No statement of the program stands here. -/
import Derived.Test.YtbfleiickdobnaaXLe
set_option autoImplicit false
set_option linter.unusedSimpArgs false
set_option linter.unusedVariables false
namespace Go.XL

def Own.set2 : Own → Nat → Nat × SObj → Own
  | [], _, _ => []
  | _ :: r, 0, q => q :: r
  | p :: r, i + 1, q => p :: Own.set2 r i q
theorem Own.set2_split {pre post : Own} {p q : Nat × SObj} : Own.set2 (pre ++ p :: post) pre.length q = pre ++ q :: post := by
  induction pre with
  | nil => rfl
  | cons x r ih => simp [Own.set2, ih]

theorem Own.set2_at {own : Own} {i : Nat} {p : Nat × SObj} (h : Own.at own i = some p) : Own.set2 own i p = own := by
  obtain ⟨pre, post, rfl, rfl⟩ := Own.at_split h
  exact Own.set2_split

/-- A block of the call's own gives way to a new one. -/
theorem Ok.swap {G : World} {H : Hp} {own fr : Own} {w : World} {i : Nat} {p : Nat × SObj} (h : Ok G H (own ++ fr) w) (hp : Own.at own i = some p) {o : Obj} {s : SObj} (hs : s.Is o) :
    Ok G H (Own.set2 own i (w.heap.size, s) ++ fr) (w.drew.alloc o) := by
  obtain ⟨pre, post, rfl, rfl⟩ := Own.at_split hp
  rw [Own.set2_split]
  have h1 : Ok G H (pre ++ (post ++ fr)) w.drew := by
    refine (Ok.shrink h (Le.refl _) ?_).drew
    simp only [List.append_assoc, List.cons_append]
    exact List.Sublist.append_left (List.sublist_cons_self _ _) _
  have h2 : Ok G H ((w.heap.size, s) :: (pre ++ (post ++ fr))) (w.drew.alloc o) := h1.new hs
  refine h2.perm ?_
  simp only [List.append_assoc, List.cons_append]
  exact List.perm_middle

theorem Ok.write2 {G : World} {H : Hp} {own fr : Own} {w : World} {i b : Nat} {s s' : SObj} (h : Ok G H (own ++ fr) w) (hp : Own.at own i = some (b, s)) (hs0 : s.some = true) {cs : Array Value} {old : Array Value} {T : TypeId}
    (hb : w.heap[b]? = some (.cells old T (0, 0))) (hs : s'.Is (.cells cs T (0, 0))) : Ok G H (Own.set2 own i (b, s') ++ fr) (w.setRow b cs) := by
  obtain ⟨pre, post, rfl, rfl⟩ := Own.at_split hp
  rw [Own.set2_split]
  simp only [List.append_assoc, List.cons_append] at h ⊢
  exact h.write hs0 hs rfl rfl rfl (setRow_heap w b _ _ T _ hb) (fun k hk => by simp [World.setRow, Array.getElem?_modify, Ne.symm hk])

theorem zeroCells_len {zs : List Value} (n : Nat) : (Builtin.zeroCells zs.toArray n).toList.length = n * zs.length := by simp [Builtin.zeroCells]

section
variable {C : Ctx} {ops : Array Oper} {Q : Exit → St → Prop} {rest : List Oper} {env : Env} {df : List Deferred} {H : Hp} {own : Own}
variable {dst : Option Tmp} {ty : TypeId} {pos : String} {af : Array Edge}

theorem addr_add (b o j : Nat) : (⟨b, o, none⟩ : Addr).add j = ⟨b, o + j, none⟩ := by unfold Addr.add; split <;> simp_all

theorem row_of {G : World} {H : Hp} {own : Own} {w : World} (hok : Ok G H own w) {b n : Nat} {T : TypeId} {xs : List Value} (hm : (b, SObj.row T n xs) ∈ own) : ∃ c : List Value, w.heap[b]? = some (.cells (xs ++ c).toArray T (0, 0)) ∧ (xs ++ c).length = n := by
  obtain ⟨⟨o, ⟨c, ho, hn⟩, hw⟩, _⟩ := hok.at hm rfl
  subst ho
  exact ⟨c, hw, hn⟩

/-- What append does to a slice of the call's own. -/
theorem run_append_acc {α : Type} {ρ : Rep α} {P : Program} {G : World} {w : World} {fr : Own} {t e t' : TypeId} {i : Nat} {p : Nat × SObj} {a a' : Option Addr} {c c' : Nat} {l l' : List α} {zs : List Value} {agg : Bool}
    (hok : Ok G H (own ++ fr) w) (hp : Own.at own i = some p) (hacc : Acc ρ e H p a c l) (hsrc : SlR ρ H a' c' l')
    (ht : P.underlying t = some (.slice e)) (he : tyF P e ρ.sz agg = true) (hz : zeroC P e = some zs) (hzl : Nat.beq zs.length ρ.sz = true) (hby : Nat.ble (P.bytesOf e) 4096 = true) (hn : l.length + l'.length ≤ 1073741824) :
    ∃ p' a'' c'' w', (Builtin.append_ #[t, t] t' #[.slice a l.length c, .slice a' l'.length c']).run P w = .ok (.slice a'' (l ++ l').length c'') w' ∧ Acc ρ e H p' a'' c'' (l ++ l') ∧ Ok G H (Own.set2 own i p' ++ fr) w' := by
  obtain ⟨_, inf, hi, hsz⟩ := tyF_run he
  have hzl := Nat.eq_of_beq_eq_true hzl
  have hby := Nat.le_of_ble_eq_true hby
  have hby' : inf.bytes ≤ 4096 := by simpa [Program.bytesOf, hi] using hby
  have hmul : (l.length + l'.length) * inf.bytes ≤ 140737488355328 := Nat.le_trans (Nat.mul_le_mul hn hby') (by decide)
  obtain ⟨z, hzz, hzc⟩ : ∃ z, inf.zero = some z ∧ z.cells = zs.toArray := by
    unfold zeroC at hz
    rw [hi] at hz
    simp only at hz
    split at hz
    · rename_i z hzz; exact ⟨z, hzz, cellsO_eq hz⟩
    · cases hz
  cases hl' : l' with
  | nil =>
    have hc := hacc.le
    refine ⟨p, a, c, w, ?_, by simpa using hacc, by rw [Own.set2_at hp]; exact hok⟩
    have hlc : l.length ≤ c := hc
    have hf : ∀ w : World, (Builtin.firstCells inf.size 0 (.slice a' 0 c')).run P w = .ok #[] w := by
      intro w; cases a' <;> simp [Builtin.firstCells, loadCells, loadCellsFrom, Sem.run, Pure.pure]
    simp only [List.append_nil, List.length_nil]
    simp [Builtin.append_, run_underlying ht, sizeOf, typeInfo, hi, Builtin.lenOf, hlc, hf]
    cases a <;> simp [storeCells, Sem.run, Pure.pure]
  | cons x0 lt =>
    rw [← hl']
    have hpos : 0 < l'.length := by rw [hl']; simp
    obtain ⟨cs', hrows, hcells⟩ := hsrc.cells
    obtain ⟨b', o', c0, ha', _, _⟩ := hsrc.el 0 x0 (by rw [hl']; rfl)
    have hnews : ∀ j v, cs'[j]? = some v → w.cell? ((⟨b', o', none⟩ : Addr).add j) = some v := by
      intro j v hj
      obtain ⟨cc, T, fz, hH, hc⟩ := hcells b' o' ha' j v hj
      rw [addr_add]
      simp [World.cell?, hok.pub _ _ hH, hc]
    have hlen : cs'.length = l'.length * inf.size := by rw [hsz]; exact hrows.length
    rcases hacc with ⟨rfl, rfl, rfl, hnone⟩ | ⟨xs, rfl, hrow, hxs, hlc⟩
    · have hrun := run_append_nil (P := P) (w := w) t t' e inf z ht hi hzz ⟨b', o', none⟩ l'.length c' cs' hlen hnews hpos (by simp at hn; omega) (by simp at hmul; omega)
      have hge := grownCap_ge w l'.length 0 e
      refine ⟨(w.heap.size, .row e (grownCap w l'.length 0 e * ρ.sz) cs'), _, _, w.drew.alloc (.cells (cs'.toArray ++ Builtin.zeroCells z.cells (grownCap w l'.length 0 e - l'.length)) e), ?_, .inr ⟨cs', rfl, rfl, by simpa using hrows, by simpa using hge⟩, ?_⟩
      · rw [ha']; simpa using hrun
      · refine hok.swap hp ⟨(Builtin.zeroCells z.cells (grownCap w l'.length 0 e - l'.length)).toList, by simp, ?_⟩
        rw [hzc, List.length_append, zeroCells_len, hzl, hrows.length, ← Nat.add_mul]
        congr 1; omega
    · obtain ⟨b, s⟩ := p
      simp only at hrow hp ⊢
      subst hrow
      obtain ⟨ct, hbw, hbn⟩ := row_of hok (List.mem_append_left fr (Own.at_mem hp))
      by_cases hroom : l.length + l'.length ≤ c
      · have hfit : l.length * inf.size + cs'.length ≤ (xs ++ ct).toArray.size := by
          simp only [List.size_toArray]
          rw [hbn, hlen, hsz, ← Nat.add_mul]
          exact Nat.mul_le_mul_right _ hroom
        have hrun := run_append_room (P := P) (w := w) t t' e inf ht hi b l.length c (xs ++ ct).toArray hbw ⟨b', o', none⟩ l'.length c' cs' hlen hnews (oneAll_mem hrows.one) hroom hfit
        refine ⟨(b, .row e (c * ρ.sz) (xs ++ cs')), _, _, w.setRow b ((xs ++ ct).toArray.toList.take (l.length * inf.size) ++ cs' ++ (xs ++ ct).toArray.toList.drop (l.length * inf.size + cs'.length)).toArray, ?_, .inr ⟨xs ++ cs', rfl, rfl, hxs.append hrows, by simpa using hroom⟩, ?_⟩
        · rw [ha']; simpa using hrun
        · have hxl : xs.length = l.length * inf.size := by rw [hsz]; exact hxs.length
          refine hok.write2 hp rfl hbw ⟨(xs ++ ct).drop (l.length * inf.size + cs'.length), ?_, ?_⟩
          · rw [List.take_append_of_le_length (by simp [hxl]), List.take_of_length_le (by simp [hxl])]
          · have h5 : (xs ++ ct).length = c * ρ.sz := hbn
            simp only [List.size_toArray] at hfit
            simp only [List.length_append, List.length_drop] at h5 hfit ⊢
            omega
      · have hrun := run_append_grow (P := P) (w := w) t t' e inf z ht hi hzz ⟨b, 0, none⟩ l.length c xs (by rw [hsz]; exact hxs.length)
          (fun j v hj => by
            have hj' := (List.getElem?_eq_some_iff.1 hj).1
            rw [addr_add]; simp only [World.cell?, hbw, Nat.zero_add]
            simp only [Option.isSome_none, Bool.false_eq_true, if_false, List.getElem?_toArray]
            rw [List.getElem?_append_left hj', hj])
          ⟨b', o', none⟩ l'.length c' cs' hlen hnews (by omega) (by omega) (growslice_fits (by omega) hmul)
        have hge := grownCap_ge w (l.length + l'.length) c e
        refine ⟨(w.heap.size, .row e (grownCap w (l.length + l'.length) c e * ρ.sz) (xs ++ cs')), _, _, w.drew.alloc (.cells (xs.toArray ++ cs'.toArray ++ Builtin.zeroCells z.cells (grownCap w (l.length + l'.length) c e - (l.length + l'.length))) e), ?_, .inr ⟨xs ++ cs', rfl, rfl, hxs.append hrows, by simpa using hge⟩, ?_⟩
        · rw [ha']; simpa using hrun
        · refine hok.swap hp ⟨(Builtin.zeroCells z.cells (grownCap w (l.length + l'.length) c e - (l.length + l'.length))).toList, by simp, ?_⟩
          rw [hzc, List.length_append, zeroCells_len, hzl, List.length_append, hxs.length, hrows.length, ← Nat.add_mul, ← Nat.add_mul]
          congr 1; omega

theorem XO.appendA (i : Nat) {α : Type} {ρ : Rep α} {t e : TypeId} {x y : Operand} {p : Nat × SObj} {a a' : Option Addr} {c c' n n' : Nat} {l l' : List α} {zs : List Value} {agg : Bool}
    (hx : ev env x = some (.slice a n c)) (hp : Own.at own i = some p) (hacc : Acc ρ e H p a c l) (hln : n = l.length) (hy : ev env y = some (.slice a' n' c')) (hsrc : SlR ρ H a' c' l') (hln' : n' = l'.length)
    (ht : C.P.underlying t = some (.slice e)) (he : tyF C.P e ρ.sz agg = true) (hz : zeroC C.P e = some zs) (hzl : Nat.beq zs.length ρ.sz = true) (hby : Nat.ble (C.P.bytesOf e) 4096 = true) (hn : l.length + l'.length ≤ 1073741824) (hd : dstOk C.N dst = true)
    (h : ∀ p' a'' c'', Acc ρ e H p' a'' c'' (l ++ l') → XO C ops Q rest ⟨putE dst (.slice a'' (l ++ l').length c'') env, df, H, Own.set2 own i p'⟩) :
    XO C ops Q (⟨dst, .call { callee := .builtin .append, args := #[x, y], argTypes := #[t, t] }, ty, pos, af, none⟩ :: rest) ⟨env, df, H, own⟩ := by
  refine XO.op rfl rfl hd fun ρ' w fr ha hok => ?_
  subst hln
  subst hln'
  obtain ⟨p', a'', c'', w', hrun, hacc', hok'⟩ := run_append_acc (P := C.P) (t := t) (t' := ty) hok hp hacc hsrc ht he hz hzl hby hn
  refine ⟨.value (.slice a'' (l ++ l').length c''), _, w', H, _, ?_, .inl rfl, Le.refl _, hok', h p' a'' c'' hacc'⟩
  simp only [execOp, resolve, Sem.run_bind]
  simp only [Pure.pure, Sem.run, Result.andThen, invoke, builtin, Sem.run_bind]
  simp [ha _ _ hx, ha _ _ hy, hrun, Result.andThen, Sem.run]

/-- Nothing yet, for a slice of the call's own that is nil. -/
theorem XO.open0 {σ : Own} (h : ∀ b, XO C ops Q rest ⟨env, df, H, (b, .nothing) :: own⟩) : XO C ops Q rest ⟨env, df, H, own⟩ := by
  intro a w hr
  exact h 0 a w ⟨hr.size, hr.get, hr.ok⟩
theorem XC.open0 {c : Code} (b : Nat) (h : XC C c Q ⟨env, df, H, (b, .nothing) :: own⟩) : XC C c Q ⟨env, df, H, own⟩ := by
  intro a w hr
  exact h a w ⟨hr.size, hr.get, hr.ok⟩

theorem publishA_aux {α : Type} {ρ : Rep α} {T : TypeId} {G : World} {w : World} {fr : Own} {i : Nat} {p : Nat × SObj} {a : Option Addr} {c : Nat} {l : List α} {own' : Own} (hok : Ok G H (own ++ fr) w) (hp : Own.at own i = some p) (hacc : Acc ρ T H p a c l) (hdl : Own.del own i = some own') :
    ∃ H', Le H H' ∧ SlR ρ H' a c l ∧ Ok G H' (own' ++ fr) w := by
  obtain ⟨pre, post, rfl, rfl⟩ := Own.at_split hp
  rw [Own.del_split] at hdl
  cases hdl
  simp only [List.append_assoc, List.cons_append] at hok ⊢
  rcases hacc with ⟨rfl, rfl, rfl, hs⟩ | ⟨xs, rfl, hs, hr, hl⟩
  · exact ⟨H, Le.refl _, SlR.nil0 ρ H, hok.shrink (Le.refl _) (List.Sublist.append_left (List.sublist_cons_self _ _) _)⟩
  · obtain ⟨b, s⟩ := p
    simp only at hs
    subst hs
    obtain ⟨H', o, hle, hb, ⟨ct, ho, hct⟩, hok'⟩ := hok.publish rfl
    subst ho
    exact ⟨H', hle, SlR.of_rows hb (fun j u hj => by rw [List.getElem?_toArray, List.getElem?_append_left (List.getElem?_eq_some_iff.1 hj).1]; exact hj) (hr.mono hle) hl, hok'⟩

theorem XC.publishA (i : Nat) {α : Type} {ρ : Rep α} {T : TypeId} {cd : Code} {p : Nat × SObj} {a : Option Addr} {c : Nat} {l : List α} {own' : Own} (hp : Own.at own i = some p) (hacc : Acc ρ T H p a c l) (hdl : Own.del own i = some own')
    (h : ∀ H', Le H H' → SlR ρ H' a c l → XC C cd Q ⟨env, df, H', own'⟩) : XC C cd Q ⟨env, df, H, own⟩ := by
  intro act w hr
  obtain ⟨ms, hdf, hok⟩ := hr.ok
  obtain ⟨H', hle, hs, hok'⟩ := publishA_aux hok hp hacc hdl
  exact Go.wpIn_mono (h H' hle hs act w ⟨hr.size, hr.get, ms, hdf, hok'⟩) fun _ _ _ l => lift_mono l hle fun _ _ q => q
theorem XO.publishA (i : Nat) {α : Type} {ρ : Rep α} {T : TypeId} {p : Nat × SObj} {a : Option Addr} {c : Nat} {l : List α} {own' : Own} (hp : Own.at own i = some p) (hacc : Acc ρ T H p a c l) (hdl : Own.del own i = some own')
    (h : ∀ H', Le H H' → SlR ρ H' a c l → XO C ops Q rest ⟨env, df, H', own'⟩) : XO C ops Q rest ⟨env, df, H, own⟩ := by
  intro act w hr
  obtain ⟨ms, hdf, hok⟩ := hr.ok
  obtain ⟨H', hle, hs, hok'⟩ := publishA_aux hok hp hacc hdl
  exact wpList_mono hle _ _ _ (h H' hle hs act w ⟨hr.size, hr.get, ms, hdf, hok'⟩)

/-- A row that was built whole is a slice of the call's own. -/
theorem Acc.lit {α : Type} {ρ : Rep α} {T : TypeId} {b : Nat} {cs : List Value} {l : List α} (h : RowsR ρ H cs l) : Acc ρ T H (b, .row T (l.length * ρ.sz) cs) (some ⟨b, 0, none⟩) l.length l := .inr ⟨cs, rfl, rfl, h, Nat.le_refl _⟩
theorem XO.toRow (i : Nat) {b : Nat} {T : TypeId} {cs : List Value} (hp : Own.at own i = some (b, .cells T cs)) (h : XO C ops Q rest ⟨env, df, H, Own.set2 own i (b, .row T cs.length cs)⟩) : XO C ops Q rest ⟨env, df, H, own⟩ := by
  intro act w hr
  obtain ⟨ms, hdf, hok⟩ := hr.ok
  refine h act w ⟨hr.size, hr.get, ms, hdf, ?_⟩
  obtain ⟨pre, post, rfl, rfl⟩ := Own.at_split hp
  rw [Own.set2_split]
  simp only [List.append_assoc, List.cons_append] at hok ⊢
  have hb := cell_of hok (b := b) (T := T) (cs := cs) (by simp)
  exact hok.write (s' := .row T cs.length cs) rfl ⟨[], by simp, by simp⟩ rfl rfl rfl hb (fun _ _ => rfl)

end
end Go.XL
