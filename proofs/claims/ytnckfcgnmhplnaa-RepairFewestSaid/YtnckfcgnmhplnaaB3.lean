/- Values of a type that holds itself, opened: by how deep the reading goes. No statement of the program stands here. -/
import Derived.Test.YtnckfcgnmhplnaaB2
import Derived.Test.YtnckfcgnmhplnaaProg
set_option autoImplicit false
set_option linter.unusedSimpArgs false
set_option linter.unusedVariables false
namespace Go.XL
/-- as Opens, for readings no deeper than N -/
def OpensN (N : Nat) (P : Program) (t : TypeId) {α : Type} (ρ : Rep α) (wf : α → Prop) : Prop := ∀ {H : Type} (enc : TypeId × Value → H) (w : World) (base : Nat) (spare : Nat → Bool) (held : Bool) (fuel : Nat) (cs : List Value) (x : DataW H × List MemPlace),
 fuel ≤ N → DataW.trod enc P w base spare held fuel t cs = some x → ∃ u, ρ.R (hpOf w) cs u ∧ wf u
theorem Opens.ofN {P : Program} {t : TypeId} {α : Type} {ρ : Rep α} {wf : α → Prop} (h : ∀ N, OpensN N P t ρ wf) : Opens P t ρ wf := fun enc w base spare held fuel cs x hx => h fuel enc w base spare held fuel cs x (Nat.le_refl _) hx
theorem OpensN.slice {N : Nat} {P : Program} {t e : TypeId} {α : Type} {ρ : Rep α} {wf : α → Prop} (ht : P.underlying t = some (.slice e)) (hsz : P.cellsOf e = ρ.sz) (hpos : 0 < ρ.sz) (ho : OpensN N P e ρ wf) :
  OpensN (N + 1) P t (slR ρ) (fun l => l.length ≤ maxLen ∧ ∀ u ∈ l, wf u) := by
 intro H enc w base spare held fuel cs x hN h
 rcases DataW.trod_slice ht h with ⟨rfl, _⟩ | ⟨a, len, cap, elems, rest, n, hn, rfl, _, _, hl, hm, hlen, hel, _, _⟩
 ·exact ⟨[], ⟨none, 0, rfl, SlR.nil0 _ _⟩, Nat.zero_le _, by simp⟩
 ·obtain ⟨l, h1, h2⟩ := list_choose (Q := fun i (u : α) => ∃ cs, w.cells? base (a.add (i * ρ.sz)) ρ.sz = some cs ∧ ρ.R (hpOf w) cs u ∧ wf u) len (fun i hi => by
   have h3 := hel i hi
   rw [List.getElem?_eq_getElem (by omega), hsz, Option.bind_eq_some_iff] at h3
   obtain ⟨cs, h4, h5⟩ := h3; obtain ⟨u, h6, h7⟩ := ho enc w base spare held n cs _ (by omega) h5
   exact ⟨u, cs, h4, h6, h7⟩)
  refine ⟨l, ⟨some a, cap, by rw [h1], by omega, by simp, fun i u hu => ?_⟩, by omega, fun u hu => ?_⟩
  ·obtain ⟨cs, h3, h4, h5⟩ := h2 i u hu
   have hi : i < l.length := (List.getElem?_eq_some_iff.1 hu).1
   obtain ⟨cs0, h30, h40, _⟩ := h2 0 l[0] (by rw [List.getElem?_eq_getElem]); obtain ⟨hk1, hk2⟩ := cells?_get h30
   have hsp : a.spot = none := by
    have := hk2 0 cs0[0] (List.getElem?_eq_getElem (by omega))
    simp [Addr.add] at this
    exact World.cell?_spot this
   obtain ⟨b, o, sp⟩ := a
   simp only at hsp; subst hsp
   refine ⟨b, o, cs, rfl, ?_, h4⟩; obtain ⟨hc1, hc2⟩ := cells?_get h3
   have hadd : ∀ j k : Nat, ((⟨b, o, none⟩ : Addr).add j).add k = ⟨b, o + j + k, none⟩ := fun j k => by
    unfold Addr.add; (repeat' split) <;> simp_all
   have hblk : ∃ c T fz, w.heap[b]? = some (.cells c T fz) := by
    have := hc2 0 cs[0] (List.getElem?_eq_getElem (by omega))
    rw [hadd] at this
    unfold World.cell? at this
    split at this
    ·rename_i c T fz hh; exact ⟨c, T, fz, hh⟩
    ·cases this
   obtain ⟨c, T, fz, hh⟩ := hblk; refine ⟨c, T, fz, hh, fun j v hj => ?_⟩
   have := hc2 j v hj
   rw [hadd] at this
   unfold World.cell? at this
   simpa [hh] using this
  ·obtain ⟨i, hi, rfl⟩ := List.getElem_of_mem hu; obtain ⟨_, _, _, h5⟩ := h2 i _ (List.getElem?_eq_getElem hi)
   exact h5
end Go.XL

/- Drawn regions whose later operations may come in several orders: each order is walked. No statement of the program stands here. -/
set_option autoImplicit false
set_option linter.unusedSimpArgs false
set_option linter.unusedVariables false
namespace Go.XL
def maskA (m n : Nat) : Array Bool := (List.replicate m true ++ List.replicate (n - m) false).toArray
theorem mask_eq {L : Array Bool} {m n : Nat} (hs : L.size = n) (h : ∀ j, lst L j = decide (j < m)) (hm : m ≤ n) : L = maskA m n := by
 apply Array.ext_getElem?
 intro j
 have hj := h j
 unfold lst at hj
 rw [Array.getD_eq_getD_getElem?] at hj
 unfold maskA
 rcases Nat.lt_or_ge j n with h1 | h1
 ·rw [Array.getElem?_eq_getElem (show j < L.size by omega)] at hj ⊢
  simp only [Option.getD_some] at hj
  rw [hj, List.getElem?_toArray, List.getElem?_append]
  split
  ·rename_i h2; simp at h2; simp [h2]
  ·rename_i h2
   simp at h2
   rw [List.getElem?_replicate]
   simp
   omega
 ·rw [Array.getElem?_eq_none (show L.size ≤ j by omega), List.getElem?_toArray, List.getElem?_eq_none (by simp; omega)]
/-- What remains of a drawn region, in whatever order. -/
def XAny (C : Ctx) (l : List Oper) (Q : Exit → St → Prop) (L : Array Bool) (σ : St) : Prop :=
 ∀ H0, Le H0 σ.H → ∀ fuel a w, unl l.length L ≤ fuel → Rel C σ a w → wpAnyIn (Fr C.r) 0 C.P .any l.toArray (lift C H0 Q) fuel L a w
def anyQ (C : Ctx) (l : List Oper) (Q : Exit → St → Prop) (L : Array Bool) : Exit → St → Prop
 | .normal, σ => XAny C l Q L σ
 | e, σ => Q e σ
section
variable {C : Ctx} {l : List Oper} {Q : Exit → St → Prop} {L : Array Bool} {σ : St}
theorem anyN {L : Array Bool} (h : XAny C l Q L σ) : anyQ C l Q L .normal σ := h
theorem XAny.done (hr : Region.ready .any l.toArray L = []) (h : Q .normal σ) : XAny C l Q L σ := fun H0 hle fuel a w _ hrel =>
 wpAnyIn_done hr ⟨σ, hrel, hle, h⟩ fuel
theorem XAny.step {rs : List Nat} (hr : Region.ready .any l.toArray L = rs) (hne : rs ≠ []) (hs : Nat.beq L.size l.length = true)
    (h : ∀ i ∈ rs, ∀ o, l[i]? = some o → XO C l.toArray (anyQ C l Q (L.setIfInBounds i true)) [o] σ) : XAny C l Q L σ := by
  intro H0 hle fuel a w hu hrel
  have hs := Nat.eq_of_beq_eq_true hs
  obtain ⟨i0, hi0⟩ := List.exists_mem_of_ne_nil rs hne
  have hlist : ∀ i, i ∈ rs → i < l.length ∧ lst L i = false := by
    intro i hi
    rw [← hr, mem_ready] at hi
    obtain ⟨h0, o, ho, _⟩ := hi
    have hlt : i < l.length := by simpa using (Array.getElem?_eq_some_iff.1 ho).1
    refine ⟨hlt, ?_⟩
    unfold lst
    rw [Array.getD_eq_getD_getElem?, Array.getElem?_eq_getElem (by omega)] at h0 ⊢
    simpa using h0
  cases fuel with
  | zero =>
    have := unl_set (L := L) (i := i0) hs (hlist i0 hi0).1 (hlist i0 hi0).2
    omega
  | succ fuel =>
    refine wpAnyIn_all hr hne ?_
    intro i hi
    obtain ⟨hlt, hun⟩ := hlist i hi
    have hk : l[i]? = some l[i] := List.getElem?_eq_getElem hlt
    have hrun := h i hi _ hk a w hrel
    simp only [wpListIn] at hrun
    have hnext : ∀ a w, wpListIn (Fr C.r) 0 C.P l.toArray (lift C σ.H (anyQ C l Q (L.setIfInBounds i true))) [] a w → wpAnyIn (Fr C.r) 0 C.P .any l.toArray (lift C H0 Q) fuel (L.setIfInBounds i true) a w := by
      rintro a w ⟨τ, hr', hle', hq⟩
      refine hq H0 (hle.trans hle') fuel a w ?_ hr'
      have := unl_set hs hlt hun; omega
    have hex : ∀ e a w, e ≠ Exit.normal → lift C σ.H (anyQ C l Q (L.setIfInBounds i true)) e a w → lift C H0 Q e a w := by
      intro e a w hne hl
      refine lift_mono hl hle fun τ _ hq => ?_
      cases e with
      | normal => exact absurd rfl hne
      | _ => exact hq
    unfold wpOpIn
    rw [List.getElem?_toArray, hk]
    simp only
    split
    · rename_i hw; rw [if_pos hw] at hrun; exact wpInOper_mono hnext hex hrun
    · rename_i hw; rw [if_neg hw] at hrun; exact ⟨hrun.1, hnext _ _ hrun.2⟩
theorem XAny.one {i : Nat} {o : Oper} (hr : Region.ready .any l.toArray L = [i]) (hs : Nat.beq L.size l.length = true) (ho : l[i]? = some o) (h : XO C l.toArray (anyQ C l Q (L.setIfInBounds i true)) [o] σ) : XAny C l Q L σ :=
 XAny.step hr (by simp) hs fun j hj o' ho' => by
  obtain rfl : j = i := by simpa using hj
  rw [ho] at ho'; cases ho'; exact h
theorem XAny.two {i k : Nat} {o o2 : Oper} (hr : Region.ready .any l.toArray L = [i, k]) (hs : Nat.beq L.size l.length = true) (ho : l[i]? = some o) (ho2 : l[k]? = some o2)
  (h : XO C l.toArray (anyQ C l Q (L.setIfInBounds i true)) [o] σ) (h2 : XO C l.toArray (anyQ C l Q (L.setIfInBounds k true)) [o2] σ) : XAny C l Q L σ :=
 XAny.step hr (by simp) hs fun j hj o' ho' => by
  simp only [List.mem_cons, List.not_mem_nil, or_false] at hj
  rcases hj with rfl | rfl
  ·rw [ho] at ho'; cases ho'; exact h
  ·rw [ho2] at ho'; cases ho'; exact h2
end
/-- as drawOkH, but the later operations need only wait for the first m -/
def drawOkA (m : Nat) (l : List Oper) (keys : List Nat) : Bool :=
  Nat.ble m l.length && (List.range m).all (fun i => match l[i]? with
    | some o => notDefer o.op && (match o.dst with
      | some t => !keys.contains t && (List.range m).all (fun j => Nat.beq i j || !(dstOf l j == some t))
      | none => true) && (o.after.toList.all fun e => !Region.binds .any e || Nat.blt e.on i) && (predsG o).all (fun j => Nat.blt j m && o.after.toList.any fun e => Region.binds .any e && Nat.beq e.on j)
    | none => false) &&
  (List.range l.length).all (fun i => Nat.blt i m || match l[i]? with
    | some o => (List.range m).all (fun j => waitsB l l.length o j) && (o.after.toList.all fun e => !Region.binds .any e || Nat.blt e.on i)
    | none => false)
section
variable {C : Ctx} {Q : Exit → St → Prop} {env : Env} {df : List Deferred} {H : Hp} {own : Own}
theorem XC.drawA (Gd : Hp → Prop) (hG : Gd H) (cre : List Nat) (hnd0 : cre.Nodup) (FO : Nat → Value → Nat × SObj → Hp → Prop) (hFO : ∀ i v p H H', Le H H' → FO i v p H → FO i v p H') {id : Nat} {l : List Oper} (m : Nat) (F : List (Value → Hp → Prop)) (hm : C.P.follows .mixedOrders = true) (hck : drawOkA m l (env.map Prod.fst) = true) (hmono' : monoL F)
    (hcm : (cre.all fun i => Nat.blt i m) = true) (steps : stepsH Gd cre FO C l F env df H own m 0 l)
    (tail : ∀ H', Le H H' → Gd H' → withP l F H' (List.range m) [] fun acc => withEnts l FO H' acc cre fun es => XAny C l Q (maskA m l.length) ⟨acc ++ env, df, H', es ++ own⟩) : XC C (.region id l.toArray true) Q ⟨env, df, H, own⟩ := by
  have hmono := monoF_of hmono'
  intro a₀ w₀ hr₀
  refine wpIn_region_any hm ?_
  simp only [drawOkA, Bool.and_eq_true, List.all_eq_true, List.mem_range] at hck
  obtain ⟨⟨hml, hck1⟩, hck2⟩ := hck
  have hml := Nat.le_of_ble_eq_true hml
  have hpre : ∀ i, i < m → ∃ o, l[i]? = some o ∧ (∀ t, o.dst = some t → t ∉ env.map Prod.fst ∧ (∀ j, j < m → i ≠ j → dstOf l j ≠ some t)) ∧ (∀ e ∈ o.after, Region.binds .any e = true → e.on < i) ∧ (∀ j ∈ predsG o, j < m ∧ ∃ e ∈ o.after, Region.binds .any e = true ∧ e.on = j) := by
    intro i hi
    have h := hck1 i hi
    split at h
    · rename_i o ho
      simp only [Bool.and_eq_true, List.all_eq_true] at h
      obtain ⟨⟨⟨hnd, hd⟩, haf⟩, hp⟩ := h
      refine ⟨o, ho, ?_, ?_, ?_⟩
      · intro t ht
        rw [ht] at hd
        simp only [Bool.and_eq_true, List.all_eq_true, List.mem_range, Bool.not_eq_true', List.contains_eq_mem, decide_eq_false_iff_not] at hd
        refine ⟨hd.1, fun j hj hne he => ?_⟩
        have := hd.2 j hj
        rw [he] at this
        simp at this
        exact hne this
      · intro e he hb
        have := haf e (by simpa using he)
        simpa [hb] using this
      · intro j hj
        have := hp j hj
        simp only [List.any_eq_true, Bool.and_eq_true] at this
        obtain ⟨h1, e, he, hb, hon⟩ := this
        exact ⟨by simpa using h1, e, by simpa using he, hb, Nat.eq_of_beq_eq_true hon⟩
    · cases h
  have hkey : ∀ i t, i < m → dstOf l i = some t → t ∉ env.map Prod.fst := by
    intro i t hi ht
    obtain ⟨o, ho, hd, _⟩ := hpre i hi
    exact (hd t (by simpa [dstOf, ho] using ht)).1
  have hdis : ∀ i j t, i < m → j < m → dstOf l i = some t → dstOf l j = some t → i = j := by
    intro i j t hi hj ht ht2
    obtain ⟨o, ho, hd, _⟩ := hpre i hi
    by_cases h : i = j
    · exact h
    · exact absurd ht2 ((hd t (by simpa [dstOf, ho] using ht)).2 j hj h)
  have htl : ∀ (i : Nat) (o : Oper), m ≤ i → l[i]? = some o → (∀ j, j < m → waitsB l l.length o j = true) ∧ (∀ e ∈ o.after, Region.binds .any e = true → e.on < i) := by
    intro i o hi ho
    have hlt := (List.getElem?_eq_some_iff.1 ho).1
    have h := hck2 i hlt
    rw [ho] at h
    rw [show Nat.blt i m = false from blt_ge hi] at h
    simp only [Bool.false_or, Bool.and_eq_true, List.all_eq_true, List.mem_range] at h
    refine ⟨fun j hj => h.1 j hj, fun e he hb => ?_⟩
    · have := h.2 e (by simpa using he)
      simpa [hb] using this
  have hdc : ∀ (i : Nat) (o : Oper), l[i]? = some o → ∀ e ∈ o.after, Region.binds .any e = true → e.on < i := by
    intro i o ho
    rcases Nat.lt_or_ge i m with h | h
    · obtain ⟨o2, ho2, _, haf, _⟩ := hpre i h
      rw [ho] at ho2; cases ho2; exact haf
    · exact (htl i o h ho).2
  have main : ∀ (fuel : Nat) (L : Array Bool) (a : Act) (w : World) (val : Nat → Value) (ent : Nat → Nat × SObj) (H' : Hp), L.size = l.length → unl l.length L ≤ fuel → Le H H' → Gd H' → (∀ (i : Nat) (o : Oper), l[i]? = some o → lst L i = true → ∀ e ∈ o.after, Region.binds .any e = true → lst L e.on = true) → (∀ j, m ≤ j → lst L j = false) →
      a.tmps.size = C.N → (∀ t v, env.get t = some v → a.tmps.getD t undef = v) → (∃ ms : List Nat, a.defers = ms.map mark ++ df ∧ Ok C.G H' ((own ++ extOf cre L ent) ++ (ms.map hid ++ C.hid)) w) → (∀ i ∈ cre, lst L i = true → FO i (val i) (ent i) H') →
      (∀ i, i < m → lst L i = true → ∀ t, dstOf l i = some t → a.tmps.getD t undef = val i ∧ factAt F i (val i) H') →
      wpAnyIn (Fr C.r) 0 C.P .any l.toArray (lift C H Q) fuel L a w := by
    intro fuel
    have done : ∀ (fuel : Nat) (L : Array Bool) (a : Act) (w : World) (val : Nat → Value) (ent : Nat → Nat × SObj) (H' : Hp), L.size = l.length → unl l.length L ≤ fuel → Le H H' → Gd H' → (∀ j, m ≤ j → lst L j = false) →
        a.tmps.size = C.N → (∀ t v, env.get t = some v → a.tmps.getD t undef = v) → (∃ ms : List Nat, a.defers = ms.map mark ++ df ∧ Ok C.G H' ((own ++ extOf cre L ent) ++ (ms.map hid ++ C.hid)) w) → (∀ i ∈ cre, lst L i = true → FO i (val i) (ent i) H') →
        (∀ i, i < m → lst L i = true → ∀ t, dstOf l i = some t → a.tmps.getD t undef = val i ∧ factAt F i (val i) H') → (∀ j, j < m → lst L j = true) →
        wpAnyIn (Fr C.r) 0 C.P .any l.toArray (lift C H Q) fuel L a w := by
      intro fuel L a w val ent H' hs hu hle hGd hT hsz henv hok hents hfacts hall
      obtain ⟨acc', hk, hmem⟩ := withP_of (val := val) (List.range m) [] _ (tail H' hle hGd) (fun j hj t ht => (hfacts j (List.mem_range.1 hj) (hall j (List.mem_range.1 hj)) t ht).2)
      have hmask : L = maskA m l.length := mask_eq hs (fun j => by
        rcases Nat.lt_or_ge j m with h | h
        · rw [hall j h]; simp [h]
        · rw [hT j h]; simp; omega) hml
      have hcall : ∀ i ∈ cre, i < m := fun i hi => by simpa using List.all_eq_true.1 hcm i hi
      have hk2 := withEnts_of (ent := ent) cre _ hk (fun i hi v hg => by
        obtain ⟨t, hd, hg⟩ := hg
        have him := hcall i hi
        obtain ⟨j, hj, hdj, rfl⟩ := hmem t v (env_get_mem (by simpa using hg))
        obtain rfl := hdis i j t him (List.mem_range.1 hj) hd hdj
        exact hents i hi (hall i him))
      have hext : extOf cre L ent = cre.map ent := by
        rw [extOf, List.filter_eq_self.2 (fun i hi => hall i (hcall i hi))]
      have hok2 : ∃ ms : List Nat, a.defers = ms.map mark ++ df ∧ Ok C.G H' ((cre.map ent ++ own) ++ (ms.map hid ++ C.hid)) w := by
        obtain ⟨ms, h1, h2⟩ := hok
        rw [hext] at h2
        exact ⟨ms, h1, h2.perm (List.perm_append_comm.append_right _)⟩
      rw [← hmask] at hk2
      refine hk2 H hle fuel a w hu ⟨hsz, ?_, hok2⟩
      intro t v hg
      simp only [List.append_nil] at hg
      rw [Env.get_append] at hg
      cases hga : Env.get acc' t with
      | none => rw [hga] at hg; exact henv t v (by simpa using hg)
      | some u =>
        rw [hga] at hg; simp at hg; subst hg
        obtain ⟨j, hj, hd, rfl⟩ := hmem t u (get_mem _ _ _ hga)
        have hj := List.mem_range.1 hj
        exact (hfacts j hj (hall j hj) t hd).1
    induction fuel with
    | zero =>
      intro L a w val ent H' hs hu hle hGd hdown hT hsz henv hok hents hfacts
      refine done 0 L a w val ent H' hs hu hle hGd hT hsz henv hok hents hfacts ?_
      intro j hj
      cases hx : lst L j with
      | true => rfl
      | false =>
        have := unl_set (L := L) (i := j) hs (by omega) hx
        omega
    | succ fuel ih =>
      intro L a w val ent H' hs hu hle hGd hdown hT hsz henv hok hents hfacts
      by_cases hall : ∀ j, j < m → lst L j = true
      · exact done (fuel + 1) L a w val ent H' hs hu hle hGd hT hsz henv hok hents hfacts hall
      · constructor
        · intro hnil
          exfalso
          apply hall
          -- the least one that is not listed is ready
          intro j hj
          induction j using Nat.strongRecOn with
          | _ j ihj =>
            cases hx : lst L j with
            | true => rfl
            | false =>
              exfalso
              obtain ⟨o, ho, _, haf, _⟩ := hpre j hj
              have : j ∈ Region.ready .any l.toArray L := by
                rw [mem_ready]
                refine ⟨?_, o, by simpa using ho, fun e he hb => ihj e.on (haf e he hb) (by have := haf e he hb; omega)⟩
                unfold lst at hx
                rw [Array.getD_eq_getD_getElem?, Array.getElem?_eq_getElem (by omega)] at hx ⊢
                simpa using hx
              rw [hnil] at this; cases this
        · intro i hi
          rw [mem_ready] at hi
          obtain ⟨h0, o, ho, hbef⟩ := hi
          have hilt : i < l.length := by simpa using (Array.getElem?_eq_some_iff.1 ho).1
          have hun : lst L i = false := by
            unfold lst
            rw [Array.getD_eq_getD_getElem?, Array.getElem?_eq_getElem (by omega)] at h0 ⊢
            simpa using h0
          have ho' : l[i]? = some o := by simpa using ho
          have him : i < m := by
            rcases Nat.lt_or_ge i m with h | h
            · exact h
            · exfalso
              apply hall
              intro j hj
              exact waits_listed hdown _ o j hbef ((htl i o h ho').1 j hj)
          obtain ⟨o2, ho2, hd, haf, hprd⟩ := hpre i him
          rw [ho'] at ho2; cases ho2
          have hdo : dstOf l i = o.dst := by simp [dstOf, ho']
          have hst := stepsH_at l 0 steps i o ho' (by omega)
          simp only [Nat.zero_add] at hst
          -- all that is known of the slots, as one list
          let X : Env := (List.range m).filterMap fun j => if lst L j then (dstOf l j).map fun t => (t, val j) else none
          obtain ⟨acc', hk, hmem⟩ := withP_of (val := val) (predsG o) [] _ (hst X (extOf cre L ent) H' hle hGd) (fun j hj tj hdj => by
            obtain ⟨hjm, e, he, hb, hon⟩ := hprd j hj
            have hlj : lst L j = true := by have := hbef e he hb; rw [hon] at this; exact this
            exact (hfacts j hjm hlj tj hdj).2)
          simp only [List.append_nil] at hk
          have hX : ∀ t v, (t, v) ∈ X → ∃ j, j < m ∧ lst L j = true ∧ dstOf l j = some t ∧ v = val j := by
            intro t v h
            obtain ⟨j, hj, hjj⟩ := List.mem_filterMap.1 h
            split at hjj
            · rename_i hlj
              cases hdj : dstOf l j with
              | none => rw [hdj] at hjj; cases hjj
              | some tj =>
                rw [hdj] at hjj
                simp only [Option.map_some, Option.some.injEq, Prod.mk.injEq] at hjj
                obtain ⟨rfl, rfl⟩ := hjj
                exact ⟨j, List.mem_range.1 hj, hlj, hdj, rfl⟩
            · cases hjj
          have hrel : Rel C ⟨acc' ++ (env ++ X), df, H', own ++ extOf cre L ent⟩ a w := by
            refine ⟨hsz, ?_, hok⟩
            intro t v hgv
            rw [Env.get_append, Env.get_append] at hgv
            cases hga : Env.get acc' t with
            | some u =>
              rw [hga] at hgv; simp at hgv; subst hgv
              obtain ⟨j, hj, hdj, rfl⟩ := hmem t u (get_mem _ _ _ hga)
              obtain ⟨hjm, e, he, hb, hon⟩ := hprd j hj
              have hlj : lst L j = true := by have := hbef e he hb; rw [hon] at this; exact this
              exact (hfacts j hjm hlj t hdj).1
            | none =>
              rw [hga] at hgv; simp only [Option.none_or] at hgv
              cases hge : Env.get env t with
              | some u => rw [hge] at hgv; simp at hgv; subst hgv; exact henv t u hge
              | none =>
                rw [hge] at hgv; simp only [Option.none_or] at hgv
                obtain ⟨j, hj, hlj, hdj, rfl⟩ := hX t v (get_mem _ _ _ hgv)
                exact (hfacts j hj hlj t hdj).1
          have hrun := hk a w hrel
          have hnext : ∀ a' w', lift C H' (stepQN Gd cre i o.dst (factAt F i) (FO i) (acc' ++ (env ++ X)) df (own ++ extOf cre L ent)) .normal a' w' → wpAnyIn (Fr C.r) 0 C.P .any l.toArray (lift C H Q) fuel (L.setIfInBounds i true) a' w' := by
            rintro a' w' ⟨σ', hr', hle', hGd', hdf', v, pe, henv', hfv, hown'⟩
            refine ih (L.setIfInBounds i true) a' w' (fun j => if j = i then v else val j) (fun j => if j = i then pe else ent j) σ'.H (by simpa using hs) ?_ (hle.trans hle') hGd' ?_ ?_ hr'.size ?_ ?_ ?_ ?_
            · have := unl_set hs hilt hun; omega
            · intro i' o' hi' hl' e he hb
              rw [lst_set (by omega)] at hl' ⊢
              split
              · rfl
              · split at hl'
                · rename_i e1 e2; subst e2; rw [ho'] at hi'; cases hi'; exact hbef e he hb
                · exact hdown i' o' hi' hl' e he hb
            · intro j hj
              rw [lst_set (by omega), if_neg (by omega)]
              exact hT j hj
            · intro t' v' hg'
              refine hr'.get t' v' ?_
              have hin : t' ∈ env.map Prod.fst := List.mem_map.2 ⟨(t', v'), get_mem _ _ _ hg', rfl⟩
              rw [henv', get_putE_ne (fun e => (hd t' e).1 hin), Env.get_append, Env.get_append]
              have : Env.get acc' t' = none := by
                cases hga : Env.get acc' t' with
                | none => rfl
                | some u =>
                  obtain ⟨j, hj, hdj, _⟩ := hmem t' u (get_mem _ _ _ hga)
                  exact absurd hin (hkey j t' (hprd j hj).1 hdj)
              rw [this, hg']; rfl
            · obtain ⟨ms, hd', hok'⟩ := hr'.ok
              refine ⟨ms, by rw [hd', hdf'], ?_⟩
              cases hc : cre.contains i with
              | true =>
                rw [hc] at hown'
                rw [hown'.1] at hok'
                refine hok'.perm (List.Perm.append_right _ ?_)
                exact ((ext_new hnd0 (List.contains_iff_mem.1 hc) hun (fun j => lst_set (by omega) j)).append_left own).trans List.perm_middle
              | false =>
                rw [hc] at hown'
                rw [show σ'.own = own ++ extOf cre L ent from hown'] at hok'
                rw [ext_old (fun h => by rw [List.contains_iff_mem.2 h] at hc; cases hc) (fun j => lst_set (by omega) j)]
                exact hok'
            · intro j hj hlj
              rw [lst_set (by omega)] at hlj
              by_cases hji : j = i
              · subst hji
                rw [List.contains_iff_mem.2 hj] at hown'
                simpa using hown'.2
              · rw [if_neg hji] at hlj
                simp only [if_neg hji]
                exact hFO _ _ _ _ _ hle' (hents j hj hlj)
            · intro j hj hlj tj htj
              rw [lst_set (by omega)] at hlj
              by_cases hji : j = i
              · subst hji
                rw [hdo] at htj
                simp only [if_true]
                refine ⟨hr'.get tj v ?_, hfv⟩
                rw [henv', htj]; simp [putE, Env.get]
              · rw [if_neg hji] at hlj
                obtain ⟨h1, h2⟩ := hfacts j hj hlj tj htj
                simp only [if_neg hji]
                refine ⟨hr'.get tj (val j) ?_, factAt_mono hmono hle' h2⟩
                rw [henv', get_putE_ne (fun e => hji (hdis j i tj hj him htj (by rw [hdo, e]))), Env.get_append, Env.get_append]
                have hacc : Env.get acc' tj = none ∨ Env.get acc' tj = some (val j) := by
                  cases hga : Env.get acc' tj with
                  | none => exact .inl rfl
                  | some u =>
                    obtain ⟨j', hj', hdj', rfl⟩ := hmem tj u (get_mem _ _ _ hga)
                    obtain rfl := hdis j' j tj (hprd j' hj').1 hj hdj' htj
                    exact .inr rfl
                rcases hacc with hacc | hacc
                · rw [hacc]
                  have henvn : Env.get env tj = none := by
                    cases hge : Env.get env tj with
                    | none => rfl
                    | some u => exact absurd (List.mem_map.2 ⟨(tj, u), get_mem _ _ _ hge, rfl⟩) (hkey j tj hj htj)
                  rw [henvn]
                  simp only [Option.none_or]
                  -- it stands in X, once
                  refine get_uniq X (List.mem_filterMap.2 ⟨j, List.mem_range.2 hj, by simp only [hlj, if_true, htj, Option.map_some]⟩) ?_
                  intro u hu'
                  obtain ⟨j', hj', _, hdj', rfl⟩ := hX tj u hu'
                  obtain rfl := hdis j' j tj hj' hj hdj' htj
                  rfl
                · rw [hacc]; rfl
          unfold wpOpIn
          rw [ho]
          simp only [wpListIn] at hrun ⊢
          split
          · rename_i hw
            rw [if_pos hw] at hrun
            refine wpInOper_mono hnext ?_ hrun
            rintro e a' w' he ⟨σ', _, _, hq⟩
            cases e <;> first | exact absurd rfl he | exact hq.elim
          · rename_i hw
            rw [if_neg hw] at hrun
            exact ⟨hrun.1, hnext _ _ hrun.2⟩
  have hlst0 : ∀ j, lst (Array.replicate l.toArray.size false) j = false := fun j => by simp [lst, Array.getD_eq_getD_getElem?, Array.getElem?_replicate]; split <;> rfl
  exact main l.toArray.size (Array.replicate l.toArray.size false) a₀ _ (fun _ => undef) (fun _ => (0, .nothing)) H (by simp) (by
      refine Nat.le_trans (List.countP_le_length) (by simp)) (Le.refl _) hG (fun i o _ hl => by
      have : lst (Array.replicate l.toArray.size false) i = false := by simp [lst, Array.getD_eq_getD_getElem?, Array.getElem?_replicate]; split <;> rfl
      rw [this] at hl; cases hl) (fun j _ => by simp [lst, Array.getD_eq_getD_getElem?, Array.getElem?_replicate]; split <;> rfl) hr₀.size hr₀.get
    (let ⟨ms, hd, hok⟩ := hr₀.ok; ⟨ms, hd, by rw [ext_none hlst0, List.append_nil]; exact hok.drew⟩) (fun i _ h => by rw [hlst0] at h; cases h) (fun i _ h => by
      have : lst (Array.replicate l.toArray.size false) i = false := by simp [lst, Array.getD_eq_getD_getElem?, Array.getElem?_replicate]; split <;> rfl
      rw [this] at h; cases h)
end
end Go.XL

/- Repairs: what the functions compute, in plain Lean. -/
set_option autoImplicit false
set_option linter.unusedVariables false
set_option linter.unusedSimpArgs false
namespace Go.Proofs
open Go.XL
abbrev Tb := List (List Bool)
abbrev Ls := List (List Int)
abbrev tbR : Rep (List Bool) := slR boolR
abbrev ilR : Rep (List Int) := slR (intR .i64)
/-- a wish -/
structure Wi where
 J : Int
 S : Int
 N : Int
 B : Tb
/-! ### Counting -/
def cmn (a b : List Int) : Nat := a.countP fun x => decide (x ∈ b)
theorem cmn_le (a b : List Int) : cmn a b ≤ a.length := List.countP_le_length
theorem cmn_y {a b : List Int} {k : Nat} {x : Int} (hx : a[k]? = some x) (h : x ∈ b) : ((cmn (a.take k) b : Nat) : Int) + 1 = (cmn (a.take (k + 1)) b : Nat) := by
 unfold cmn; rw [take_snoc hx, List.countP_append]; simp [h]
theorem cmn_n {a b : List Int} {k : Nat} {x : Int} (hx : a[k]? = some x) (h : ¬ x ∈ b) : ((cmn (a.take k) b : Nat) : Int) = (cmn (a.take (k + 1)) b : Nat) := by
 unfold cmn; rw [take_snoc hx, List.countP_append]; simp [h]
theorem cmn_k {a b : List Int} {k : Nat} : cmn (a.take k) b ≤ k := Nat.le_trans (cmn_le _ _) (by rw [List.length_take]; omega)
def loadL (l : Ls) (j : Int) : Nat := l.countP fun x => decide (j ∈ x)
theorem load_le (l : Ls) (j : Int) : loadL l j ≤ l.length := List.countP_le_length
theorem load_k {l : Ls} {j : Int} {k : Nat} : loadL (l.take k) j ≤ k := Nat.le_trans (load_le _ _) (by rw [List.length_take]; omega)
theorem load_y {l : Ls} {j : Int} {k : Nat} {x : List Int} (hx : l[k]? = some x) (h : j ∈ x) : ((loadL (l.take k) j : Nat) : Int) + 1 = (loadL (l.take (k + 1)) j : Nat) := by
 unfold loadL; rw [take_snoc hx, List.countP_append]; simp [h]
theorem load_n {l : Ls} {j : Int} {k : Nat} {x : List Int} (hx : l[k]? = some x) (h : ¬ j ∈ x) : ((loadL (l.take k) j : Nat) : Int) = (loadL (l.take (k + 1)) j : Nat) := by
 unfold loadL; rw [take_snoc hx, List.countP_append]; simp [h]
/-- how many judges are new for their entries -/
def chg : Ls → Ls → Nat
 | o :: old, x :: l => (x.length - cmn x o) + chg old l
 | _, _ => 0
theorem chg_nil (old : Ls) : chg old [] = 0 := by cases old <;> rfl
theorem chg_snoc : ∀ {old l : Ls} {k : Nat} {x o : List Int}, l[k]? = some x → old[k]? = some o → chg old (l.take (k + 1)) = chg old (l.take k) + (x.length - cmn x o)
  | [], l, k, x, o, _, h => by simp at h
  | o' :: old, [], k, x, o, h, _ => by simp at h
  | o' :: old, y :: l, 0, x, o, h1, h2 => by
    simp at h1 h2; subst h1; subst h2; simp [chg]
  | o' :: old, y :: l, k + 1, x, o, h1, h2 => by
    simp only [List.take_succ_cons, chg]
    rw [chg_snoc (by simpa using h1) (by simpa using h2)]; omega
theorem chg_snocI {old l : Ls} {k : Nat} {x o : List Int} (h1 : l[k]? = some x) (h2 : old[k]? = some o) : ((chg old (l.take k) : Nat) : Int) + ((x.length : Int) - (cmn x o : Nat)) = (chg old (l.take (k + 1)) : Nat) := by
 rw [chg_snoc h1 h2]; have := cmn_le x o; omega
theorem chg_snocI2 {old l : Ls} {k : Nat} {x o : List Int} (h1 : l[k]? = some x) (h2 : old[k]? = some o) : ((chg old (l.take k) : Nat) : Int) + (x.length : Int) - (cmn x o : Nat) = (chg old (l.take (k + 1)) : Nat) := by
 rw [chg_snoc h1 h2]; have := cmn_le x o; omega
def wid (l : Ls) : Nat := (l.map List.length).sum
theorem chg_wid : ∀ (old l : Ls), chg old l ≤ wid l
  | [], l => by simp [chg]
  | o :: old, [] => by simp [chg]
  | o :: old, x :: l => by
    have := chg_wid old l
    simp only [chg, wid, List.map_cons, List.sum_cons] at this ⊢
    omega
/-! ### Wishes and assignments that fit -/
def rightW (w : Wi) : Prop := (((((1 ≤ w.J ∧ w.J ≤ 256) ∧ 1 ≤ w.S) ∧ w.S ≤ w.J) ∧ 0 ≤ w.N) ∧ w.N ≤ w.S) ∧ w.B.length ≤ 4096 ∧ ∀ r ∈ w.B, (r.length : Int) = w.J
instance (w : Wi) : Decidable (rightW w) := by unfold rightW; infer_instance
/-- rising numbers behind 'last', below J, none of them marked in r -/
def fitB (J : Int) (r : List Bool) : Int → List Int → Bool
 | _, [] => true
 | last, x :: t => decide (last < x) && decide (x < J) && !(r.getD x.toNat false) && fitB J r x t
def fitW (w : Wi) (r : List Bool) (x : List Int) : Prop := (x.length : Int) = w.S ∧ fitB w.J r (-1) x = true
instance (w : Wi) (r : List Bool) (x : List Int) : Decidable (fitW w r x) := by unfold fitW; infer_instance
def fitAll (w : Wi) : Tb → Ls → Bool
 | r :: B, x :: l => decide (fitW w r x) && fitAll w B l
 | _, _ => true
def chkD (w : Wi) (l : Ls) : Int := if rightW w then (if l.length = w.B.length then (if fitAll w w.B l = true then 0 else 280) else 280) else 290
theorem drop_cons {α : Type} {l : List α} {k : Nat} {x : α} (h : l[k]? = some x) : l.drop k = x :: l.drop (k + 1) := by
 have hk : k < l.length := (List.getElem?_eq_some_iff.1 h).1
 rw [List.drop_eq_getElem_cons hk]
 congr 1
 have := (List.getElem?_eq_some_iff.1 h).2
 exact this
theorem fitB_y {J last x : Int} {r : List Bool} {l : List Int} {k : Nat} {b b2 : Bool} (h : b = fitB J r last (l.drop k)) (hx : l[k]? = some x) (h1 : last < x) (h2 : x < J) (h3 : r[x.toNat]? = some b2) (hb2 : b2 = false) : b = fitB J r x (l.drop (k + 1)) := by
 rw [h, drop_cons hx, fitB, List.getD_eq_getElem?_getD, h3]; simp [h1, h2, hb2]
theorem fitB_n {J last x : Int} {r : List Bool} {l : List Int} {k : Nat} {b : Bool} (h : b = fitB J r last (l.drop k)) (hx : l[k]? = some x) (hn : ¬ (last < x ∧ x < J ∧ r[x.toNat]? ≠ some true)) : b = false := by
 rw [h, drop_cons hx, fitB]
 cases hb : decide (last < x) && decide (x < J) && !(r.getD x.toNat false)
 ·rfl
 ·exfalso
  simp only [Bool.and_eq_true, decide_eq_true_eq, Bool.not_eq_true'] at hb
  refine hn ⟨hb.1.1, hb.1.2, fun h => ?_⟩
  rw [List.getD_eq_getElem?_getD, h] at hb; cases hb.2
theorem fitAll_y {w : Wi} {B : Tb} {l : Ls} {k : Nat} {r : List Bool} {x : List Int} {b : Bool} (h : b = fitAll w (B.drop k) (l.drop k)) (hr : B[k]? = some r) (hx : l[k]? = some x) (hf : fitW w r x) : b = fitAll w (B.drop (k + 1)) (l.drop (k + 1)) := by
 rw [h, drop_cons hr, drop_cons hx, fitAll, decide_eq_true hf, Bool.true_and]
theorem fitAll_n {w : Wi} {B : Tb} {l : Ls} {k : Nat} {r : List Bool} {x : List Int} {b : Bool} (h : b = fitAll w (B.drop k) (l.drop k)) (hr : B[k]? = some r) (hx : l[k]? = some x) (hf : ¬ fitW w r x) : b = false := by
 rw [h, drop_cons hr, drop_cons hx, fitAll, decide_eq_false hf, Bool.false_and]
theorem fitAll_e {w : Wi} (B : Tb) : fitAll w B [] = true := by cases B <;> rfl
theorem lt_last {last p x : Int} {l : List Int} {k : Nat} (hL : last = if k = 0 then -1 else l.getD (k - 1) 0) (hp : l[k - 1]? = some p) (h : 0 < k → p < x) (hx : 0 ≤ x) : last < x := by
 rw [hL]; split
 ·omega
 ·rw [List.getD_eq_getElem?_getD, hp]; exact h (by omega)
theorem gt_last {last p x : Int} {l : List Int} {k : Nat} (hL : last = if k = 0 then -1 else l.getD (k - 1) 0) (hp : l[k - 1]? = some p) (h : last < x) : (k = 0 ∧ 0 ≤ x) ∨ (0 < k ∧ p < x) := by
 rw [hL] at h; split at h
 ·omega
 ·rw [List.getD_eq_getElem?_getD, hp] at h; exact Or.inr ⟨by omega, h⟩
theorem last_next {x : Int} {l : List Int} {k : Nat} (hx : l[k]? = some x) : x = if k + 1 = 0 then -1 else l.getD (k + 1 - 1) 0 := by
 rw [if_neg (by omega), Nat.add_sub_cancel, List.getD_eq_getElem?_getD, hx]; rfl
theorem chkD_290 {w : Wi} {l : Ls} (h : ¬ rightW w) : chkD w l = 290 := if_neg h
theorem chkD_len {w : Wi} {l : Ls} (h : rightW w) (h2 : ¬ l.length = w.B.length) : chkD w l = 280 := by rw [chkD, if_pos h, if_neg h2]
theorem chkD_no {w : Wi} {l : Ls} (h : rightW w) (h2 : l.length = w.B.length) (h3 : fitAll w w.B l = false) : chkD w l = 280 := by rw [chkD, if_pos h, if_pos h2, if_neg (by rw [h3]; decide)]
theorem chkD_0 {w : Wi} {l : Ls} (h : rightW w) (h2 : l.length = w.B.length) (h3 : fitAll w w.B l = true) : chkD w l = 0 := by rw [chkD, if_pos h, if_pos h2, if_pos h3]
theorem chkD_eq0 {w : Wi} {l : Ls} (h : chkD w l = 0) : rightW w ∧ l.length = w.B.length ∧ fitAll w w.B l = true := by
 unfold chkD at h
 split at h
 ·rename_i h1
  split at h
  ·rename_i h2
   split at h
   ·rename_i h3; exact ⟨h1, h2, h3⟩
   ·cases h
  ·cases h
 ·cases h
theorem fitAll_at {w : Wi} : ∀ {B : Tb} {l : Ls} {k : Nat} {r : List Bool} {x : List Int}, fitAll w B l = true → B[k]? = some r → l[k]? = some x → fitW w r x
  | [], _, k, r, x, _, h, _ => by simp at h
  | _ :: _, [], k, r, x, _, _, h => by simp at h
  | r' :: B, x' :: l, 0, r, x, h, h1, h2 => by
    simp at h1 h2; subst h1; subst h2
    rw [fitAll, Bool.and_eq_true, decide_eq_true_eq] at h; exact h.1
  | r' :: B, x' :: l, k + 1, r, x, h, h1, h2 => by
    rw [fitAll, Bool.and_eq_true] at h
    exact fitAll_at h.2 (by simpa using h1) (by simpa using h2)
theorem fitB_mem {J : Int} {r : List Bool} : ∀ {l : List Int} {last x : Int}, fitB J r last l = true → x ∈ l → last < x ∧ x < J ∧ r.getD x.toNat false = false
  | y :: t, last, x, h, hx => by
    rw [fitB] at h
    simp only [Bool.and_eq_true, decide_eq_true_eq, Bool.not_eq_true'] at h
    rcases List.mem_cons.1 hx with rfl | hx
    · exact ⟨h.1.1.1, h.1.1.2, h.1.2⟩
    · have := fitB_mem h.2 hx
      exact ⟨by omega, this.2⟩
/-! ### Who is there, and loads -/
def rangeI (a n : Nat) : List Int := (List.range' a n).map fun (i : Nat) => (i : Int)
def prs (J : Int) (ab : List Int) : List Int := (rangeI 0 J.toNat).filter fun x => !decide (x ∈ ab)
theorem rangeI_succ (a n : Nat) : rangeI a (n + 1) = rangeI a n ++ [((a + n : Nat) : Int)] := by
 unfold rangeI; rw [List.range'_concat]; simp
theorem prs_y {k : Nat} {ab : List Int} (h : ¬ ((k : Nat) : Int) ∈ ab) : (rangeI 0 (k + 1)).filter (fun x => !decide (x ∈ ab)) = (rangeI 0 k).filter (fun x => !decide (x ∈ ab)) ++ [((k : Nat) : Int)] := by
 rw [rangeI_succ, List.filter_append]; simp [h]
theorem prs_n {k : Nat} {ab : List Int} (h : ((k : Nat) : Int) ∈ ab) : (rangeI 0 (k + 1)).filter (fun x => !decide (x ∈ ab)) = (rangeI 0 k).filter (fun x => !decide (x ∈ ab)) := by
 rw [rangeI_succ, List.filter_append]; simp [h]
theorem mem_rangeI {a n : Nat} {x : Int} : x ∈ rangeI a n ↔ (a : Int) ≤ x ∧ x < (a + n : Nat) := by
 unfold rangeI
 simp only [List.mem_map, List.mem_range'_1]
 constructor
 ·rintro ⟨i, hi, rfl⟩; omega
 ·intro h; exact ⟨x.toNat, by omega, by omega⟩
theorem prs_len (J : Int) (ab : List Int) : (prs J ab).length ≤ J.toNat := by
 refine Nat.le_trans (List.length_filter_le _ _) ?_
 simp [rangeI]
theorem mem_prs {J : Int} {ab : List Int} {x : Int} : x ∈ prs J ab ↔ (0 ≤ x ∧ x < J) ∧ x ∉ ab := by
 unfold prs
 rw [List.mem_filter, mem_rangeI]; simp; omega
/-- a judge's load cannot become balanced -/
def offK (n many S len ld : Int) : Prop := n * S + many ≤ ld * many ∨ ld + n - len < (n * S) / many
instance (n many S len ld : Int) : Decidable (offK n many S len ld) := by unfold offK; infer_instance
def unbalB (w : Wi) (pr : List Int) (l : Ls) : Bool := pr.any fun k => decide (offK w.B.length pr.length w.S l.length (loadL l k : Nat))
def apartB (w : Wi) (l : Ls) : Bool := match l.getLast? with
 | none => false
 | some y => l.dropLast.any fun x => decide (((cmn x y : Nat) : Int) < w.N)
def whyW (w : Wi) (old : Ls) (pr : List Int) (l : Ls) (lim : Int) : Int := if lim ≤ (chg old l : Nat) then 3 else if unbalB w pr l = true then 1 else if apartB w l = true then 2 else 0
/-! ### Lists of judges -/
def comb (bad : Int → Bool) : Nat → List Int → Ls
 | 0, _ => [[]]
 | _ + 1, [] => []
 | n + 1, x :: t => (if bad x = true then [] else (comb bad n t).map (x :: ·)) ++ comb bad (n + 1) t
def badR (r : List Bool) (x : Int) : Bool := r.getD x.toNat false
def preL (l : List Int) (m : Ls) : Ls := m.map (l ++ ·)
theorem preL_cons (l : List Int) (x : Int) (m : Ls) : preL l (m.map (x :: ·)) = preL (l ++ [x]) m := by
 unfold preL; rw [List.map_map]; refine List.map_congr_left fun a _ => ?_; simp
theorem comb_len {bad : Int → Bool} : ∀ {n : Nat} {l x : List Int}, x ∈ comb bad n l → x.length = n
  | 0, _, x, h => by simp [comb] at h; subst h; rfl
  | n + 1, [], x, h => by simp [comb] at h
  | n + 1, y :: t, x, h => by
    rw [comb, List.mem_append] at h
    rcases h with h | h
    · split at h
      · cases h
      · obtain ⟨z, hz, rfl⟩ := List.mem_map.1 h
        simp [comb_len hz]
    · exact comb_len h
theorem comb_size {bad : Int → Bool} : ∀ (n : Nat) (l : List Int), (comb bad n l).length ≤ 2 ^ l.length
  | 0, l => by simp [comb]; exact Nat.one_le_two_pow
  | n + 1, [] => by simp [comb]
  | n + 1, y :: t => by
    rw [comb, List.length_append, List.length_cons, Nat.pow_succ]
    have h1 := comb_size (bad := bad) n t
    have h2 := comb_size (bad := bad) (n + 1) t
    split
    · simp; omega
    · rw [List.length_map]; omega
end Go.Proofs

/- The walks of the functions of repairs: what each of them computes, at any input. -/
set_option autoImplicit false
set_option linter.unusedVariables false
set_option linter.unusedSimpArgs false
namespace Go.Proofs
open Go.XL

theorem follows : Try.prog.follows .mixedOrders = true := by kernel_rfl
theorem ty_26 : tyF Try.prog 26 1 false = true := by kernel_rfl
theorem ty_3 : tyF Try.prog 3 1 false = true := by kernel_rfl

theorem has_fn (a : Option Addr) (c : Nat) (l : List Int) (H : Hp) (hs : SlR (intR .i64) H a c l) (hl : l.length < 9223372036854775808) (x : Int) : FnC Try.prog 38 #[.slice a l.length c, .int .i64 x] H [] (RetR (fun v _ _ => v = .bool (decide (x ∈ l)))) := by
 refine FnC.intro (args := [.slice a l.length c, .int .i64 x]) Try.func38 rfl rfl Try.ntmps38 rfl rfl rfl fun G rest => ?_
 refine XC.seq ?_; refine XC.region ?_; refine XO.assign rfl rfl ?_; refine XO.nil ?_; refine XC.seq2 ?_; refine XC.seq ?_; refine XC.seq ?_; refine XC.region ?_; refine XO.assign rfl rfl ?_; refine XO.nil ?_; refine XC.seq2 ?_; refine XC.block ?_; refine XC.keep [5, 0, 1] rfl ?_; refine XC.loop (base := [(0, _), (1, _)]) (fun ζ : Nat => [(5, .int .i64 (ζ : Nat))]) (fun ζ Hl own => ζ ≤ l.length ∧ rest = own ∧ (∀ y ∈ l.take ζ, ¬ (y = x))) (fun ζ => l.length - ζ) 0 (prov_cons (rfl) (prov_cons (rfl) (prov_cons (rfl) prov_nil))) (by repeat (first | exact List.Sublist.refl _ | apply List.Sublist.cons_cons | apply List.Sublist.cons)) ⟨Nat.zero_le _, rfl, by simp⟩ ?_; rintro k Hl0 _ hle0 ⟨hkk, rfl, hno⟩; replace hs := hs.mono hle0
 try dsimp only at ⊢
 refine XC.seq ?_; refine XC.seq ?_; refine XC.region ?_; refine XO.move rfl rfl ?_; refine XO.move rfl rfl ?_; refine XO.lenS (ts := #[]) rfl Try.underlying26 rfl ?_; refine XO.lss rfl rfl rfl ?_; refine XO.nil ?_; refine XC.seq2 ?_; refine XC.cond rfl (fun c0_1 => ?_) (fun c0_1 => ?_)
 ·refine XC.skip ?_; refine XC.seq2 ?_; refine XC.seq ?_; refine XC.block ?_; refine XC.seq ?_; refine XC.region ?_; refine XO.move rfl rfl ?_; refine XO.move rfl rfl ?_; refine XO.indexN rfl hs rfl Try.underlying26 ty_3 (by omega) rfl ?_; rintro eb14 eo14 _ x14 hx14 rfl hp14; refine XO.loadH rfl (by assumption) ty_3 rfl rfl rfl ?_; refine XO.move rfl rfl ?_; refine XO.eql rfl rfl rfl ?_; refine XO.nil ?_; refine XC.seq2 ?_; refine XC.cond rfl (fun c1_3 => ?_) (fun c1_3 => ?_)
  ·refine XC.seq ?_; refine XC.region ?_; refine XO.assign rfl rfl ?_; refine XO.nil ?_; refine XC.seq2 ?_; refine XC.ret ?_; refine blockR ?_; refine seqX_ret ?_; refine loopX_ret ?_; refine blockR ?_; refine seqX_ret ?_; refine ⟨rfl, _, [], rfl, (by repeat (first | exact List.Sublist.refl _ | apply List.Sublist.cons)), RetR.mk ?_⟩
   exact congrArg Value.bool (decide_eq_true ((show x14 = x by omega) ▸ List.mem_of_getElem? hx14)).symm
  ·refine XC.skip ?_; refine blockN ?_; refine XC.seq2 ?_; refine XC.region ?_; refine XO.move rfl rfl ?_; refine XO.add rfl rfl (wrap_i64 (by omega) (by omega)) rfl ?_; refine XO.assign rfl rfl ?_; refine XO.nil ?_; refine loop_next (k + 1) (by show l.length - (k + 1) < l.length - k; omega) (prov_cons (rfl) (prov_cons (rfl) (prov_cons (rfl) prov_nil))) (⟨by show k + 1 ≤ l.length; omega, rfl, all_snoc hno hx14 (by omega)⟩) (by repeat (first | exact List.Sublist.refl _ | apply List.Sublist.cons_cons | apply List.Sublist.cons)) (hle0)
 ·obtain rfl : k = l.length := by omega
  rw [List.take_length] at hno
  refine XC.exit ?_; refine seqX_exit ?_; refine loopX_exit ?_; refine blockHit rfl ?_; refine XC.seq2 ?_; refine XC.seq ?_; refine XC.region ?_; refine XO.assign rfl rfl ?_; refine XO.nil ?_; refine XC.seq2 ?_; refine XC.ret ?_; refine ⟨rfl, _, [], rfl, (by repeat (first | exact List.Sublist.refl _ | apply List.Sublist.cons)), RetR.mk ?_⟩
  exact congrArg Value.bool (decide_eq_false (fun h => hno x h rfl)).symm

theorem index_fn (a : Option Addr) (c : Nat) (l : List Int) (H : Hp) (hs : SlR (intR .i64) H a c l) (hl : l.length < 9223372036854775808) (x : Int) : FnC Try.prog 54 #[.slice a l.length c, .int .i64 x] H [] (RetR (fun v _ _ => ∃ i : Int, v = .int .i64 i ∧ (0 ≤ i ↔ x ∈ l))) := by
 refine FnC.intro (args := [.slice a l.length c, .int .i64 x]) Try.func54 rfl rfl Try.ntmps54 rfl rfl rfl fun G rest => ?_
 refine XC.seq ?_; refine XC.region ?_; refine XO.assign rfl rfl ?_; refine XO.nil ?_; refine XC.seq2 ?_; refine XC.seq ?_; refine XC.seq ?_; refine XC.region ?_; refine XO.move rfl rfl ?_; refine XO.lenS (ts := #[]) rfl Try.underlying26 rfl ?_; refine XO.move rfl rfl ?_; refine XO.nil ?_; refine XC.seq2 ?_; refine XC.block ?_; refine XC.keep [8, 0, 1, 7] rfl ?_; refine XC.loop (base := [(0, _), (1, _), (7, _)]) (fun ζ : Nat => [(8, .int .i64 (ζ : Nat))]) (fun ζ Hl own => ζ ≤ l.length ∧ rest = own ∧ (∀ y ∈ l.take ζ, ¬ (y = x))) (fun ζ => l.length - ζ) 0 (prov_cons (rfl) (prov_cons (rfl) (prov_cons (rfl) (prov_cons (rfl) prov_nil)))) (by repeat (first | exact List.Sublist.refl _ | apply List.Sublist.cons_cons | apply List.Sublist.cons)) ⟨Nat.zero_le _, rfl, by simp⟩ ?_; rintro k Hl0 _ hle0 ⟨hkk, rfl, hno⟩; replace hs := hs.mono hle0
 try dsimp only at ⊢
 refine XC.seq ?_; refine XC.region ?_; refine XO.lss rfl rfl rfl ?_; refine XO.nil ?_; refine XC.seq2 ?_; refine XC.seq ?_; refine XC.cond rfl (fun c0_1 => ?_) (fun c0_1 => ?_)
 ·refine XC.skip ?_; refine XC.seq2 ?_; refine XC.seq ?_; refine XC.block ?_; refine XC.seq ?_; refine XC.region ?_; refine XO.move rfl rfl ?_; refine XO.assign rfl rfl ?_; refine XO.nil ?_; refine XC.seq2 ?_; refine XC.seq ?_; refine XC.region ?_; refine XO.move rfl rfl ?_; refine XO.move rfl rfl ?_; refine XO.move rfl rfl ?_; refine XO.indexN rfl hs rfl Try.underlying26 ty_3 (by omega) rfl ?_; rintro eb14 eo14 _ x14 hx14 rfl hp14; refine XO.loadH rfl (by assumption) ty_3 rfl rfl rfl ?_; refine XO.eql rfl rfl rfl ?_; refine XO.nil ?_; refine XC.seq2 ?_; refine XC.cond rfl (fun c1_3 => ?_) (fun c1_3 => ?_)
  ·refine XC.seq ?_; refine XC.region ?_; refine XO.move rfl rfl ?_; refine XO.assign rfl rfl ?_; refine XO.nil ?_; refine XC.seq2 ?_; refine XC.ret ?_; refine blockR ?_; refine seqX_ret ?_; refine loopX_ret ?_; refine blockR ?_; refine seqX_ret ?_; refine ⟨rfl, _, [], rfl, (by repeat (first | exact List.Sublist.refl _ | apply List.Sublist.cons)), RetR.mk ?_⟩
   exact ⟨_, rfl, fun _ => (show x14 = x by omega) ▸ List.mem_of_getElem? hx14, fun _ => by omega⟩
  ·refine XC.skip ?_; refine blockN ?_; refine XC.seq2 ?_; refine XC.region ?_; refine XO.add rfl rfl (wrap_i64 (by omega) (by omega)) rfl ?_; refine XO.move rfl rfl ?_; refine XO.nil ?_; refine loop_next (k + 1) (by show l.length - (k + 1) < l.length - k; omega) (prov_cons (rfl) (prov_cons (rfl) (prov_cons (rfl) (prov_cons (rfl) prov_nil)))) (⟨by show k + 1 ≤ l.length; omega, rfl, all_snoc hno hx14 (by omega)⟩) (by repeat (first | exact List.Sublist.refl _ | apply List.Sublist.cons_cons | apply List.Sublist.cons)) (hle0)
 ·obtain rfl : k = l.length := by omega
  rw [List.take_length] at hno
  refine XC.exit ?_; refine seqX_exit ?_; refine loopX_exit ?_; refine blockHit rfl ?_; refine XC.seq2 ?_; refine XC.seq ?_; refine XC.region ?_; refine XO.assign rfl rfl ?_; refine XO.nil ?_; refine XC.seq2 ?_; refine XC.ret ?_; refine ⟨rfl, _, [], rfl, (by repeat (first | exact List.Sublist.refl _ | apply List.Sublist.cons)), RetR.mk ?_⟩
  exact ⟨-1, rfl, fun h => absurd h (by decide), fun h => absurd rfl (hno x h)⟩

theorem contains_fn (a : Option Addr) (c : Nat) (l : List Int) (H : Hp) (hs : SlR (intR .i64) H a c l) (hl : l.length < 9223372036854775808) (x : Int) : FnC Try.prog 40 #[.slice a l.length c, .int .i64 x] H [] (RetR (fun v _ _ => v = .bool (decide (x ∈ l)))) := by
 refine FnC.intro (args := [.slice a l.length c, .int .i64 x]) Try.func40 rfl rfl Try.ntmps40 rfl rfl rfl fun G rest => ?_
 refine XC.seq ?_; refine XC.region ?_; refine XO.assign rfl rfl ?_; refine XO.nil ?_; refine XC.seq2 ?_; refine XC.seq ?_; refine XC.region ?_; refine XO.move rfl rfl ?_; refine XO.move rfl rfl ?_; refine XO.callK rfl (index_fn _ _ _ _ hs hl x) rfl ?_; rintro _ ⟨iX, rfl, hX⟩; refine XO.geq rfl rfl rfl ?_; refine XO.assign rfl rfl ?_; refine XO.nil ?_; refine XC.seq2 ?_; refine XC.ret ?_; refine ⟨rfl, _, [], rfl, (by repeat (first | exact List.Sublist.refl _ | apply List.Sublist.cons)), RetR.mk ?_⟩
 exact congrArg Value.bool (by rw [decide_eq_decide]; exact hX)

theorem rcommon_fn (a b : Option Addr) (c d : Nat) (l l2 : List Int) (H : Hp) (hs : SlR (intR .i64) H a c l) (ht : SlR (intR .i64) H b d l2) (hl : l.length < 9223372036854775808) (hl2 : l2.length < 9223372036854775808) : FnC Try.prog 39 #[.slice a l.length c, .slice b l2.length d] H [] (RetR (fun v _ _ => v = .int .i64 (cmn l l2 : Nat))) := by
 refine FnC.intro (args := [.slice a l.length c, .slice b l2.length d]) Try.func39 rfl rfl Try.ntmps39 rfl rfl rfl fun G rest => ?_
 refine XC.seq ?_; refine XC.region ?_; refine XO.assign rfl rfl ?_; refine XO.nil ?_; refine XC.seq2 ?_; refine XC.seq ?_; refine XC.region ?_; refine XO.assign rfl rfl ?_; refine XO.nil ?_; refine XC.seq2 ?_; refine XC.seq ?_; refine XC.seq ?_; refine XC.region ?_; refine XO.assign rfl rfl ?_; refine XO.nil ?_; refine XC.seq2 ?_; refine XC.block ?_; refine XC.keep [5, 6, 0, 1] rfl ?_; refine XC.loop (base := [(0, _), (1, _)]) (fun ζ : Nat => [(5, .int .i64 (cmn (l.take ζ) l2 : Nat)), (6, .int .i64 (ζ : Nat))]) (fun ζ Hl own => ζ ≤ l.length ∧ rest = own) (fun ζ => l.length - ζ) 0 (prov_cons (rfl) (prov_cons (rfl) (prov_cons (rfl) (prov_cons (rfl) prov_nil)))) (by repeat (first | exact List.Sublist.refl _ | apply List.Sublist.cons_cons | apply List.Sublist.cons)) ⟨Nat.zero_le _, rfl⟩ ?_; rintro k Hl0 _ hle0 ⟨hkk, rfl⟩; replace hs := hs.mono hle0; replace ht := ht.mono hle0
 try dsimp only at ⊢
 refine XC.seq ?_; refine XC.seq ?_; refine XC.region ?_; refine XO.move rfl rfl ?_; refine XO.move rfl rfl ?_; refine XO.lenS (ts := #[]) rfl Try.underlying26 rfl ?_; refine XO.lss rfl rfl rfl ?_; refine XO.nil ?_; refine XC.seq2 ?_; refine XC.cond rfl (fun c0_1 => ?_) (fun c0_1 => ?_)
 ·refine XC.skip ?_; refine XC.seq2 ?_; refine XC.seq ?_; refine XC.block ?_; refine XC.seq ?_; refine XC.region ?_
  have hct := cmn_k (a := l) (b := l2) (k := k)
  refine XO.move rfl rfl ?_; refine XO.move rfl rfl ?_; refine XO.move rfl rfl ?_; refine XO.indexN rfl hs rfl Try.underlying26 ty_3 (by omega) rfl ?_; rintro eb16 eo16 _ x16 hx16 rfl hp16; refine XO.loadH rfl (by assumption) ty_3 rfl rfl rfl ?_; refine XO.callV rfl (has_fn _ _ l2 _ ht hl2 x16) rfl ?_; refine XO.nil ?_; refine XC.seq2 ?_; refine XC.cond rfl (fun c1_4 => ?_) (fun c1_4 => ?_)
  ·refine XC.region ?_; refine XO.move rfl rfl ?_; refine XO.add rfl rfl (wrap_i64 (by omega) (by omega)) rfl ?_; refine XO.assign rfl rfl ?_; refine XO.nil ?_; refine blockN ?_; refine XC.seq2 ?_; refine XC.region ?_; refine XO.move rfl rfl ?_; refine XO.add rfl rfl (wrap_i64 (by omega) (by omega)) rfl ?_; refine XO.assign rfl rfl ?_; refine XO.nil ?_; refine loop_next (k + 1) (by show l.length - (k + 1) < l.length - k; omega) (prov_cons (by first | exact provI rfl (cmn_y hx16 (by assumption)) | exact provI rfl (cmn_n hx16 (by assumption))) (prov_cons (rfl) (prov_cons (rfl) (prov_cons (rfl) prov_nil)))) (⟨by show k + 1 ≤ l.length; omega, rfl⟩) (by repeat (first | exact List.Sublist.refl _ | apply List.Sublist.cons_cons | apply List.Sublist.cons)) (hle0)
  ·refine XC.skip ?_; refine blockN ?_; refine XC.seq2 ?_; refine XC.region ?_; refine XO.move rfl rfl ?_; refine XO.add rfl rfl (wrap_i64 (by omega) (by omega)) rfl ?_; refine XO.assign rfl rfl ?_; refine XO.nil ?_; refine loop_next (k + 1) (by show l.length - (k + 1) < l.length - k; omega) (prov_cons (by first | exact provI rfl (cmn_y hx16 (by assumption)) | exact provI rfl (cmn_n hx16 (by assumption))) (prov_cons (rfl) (prov_cons (rfl) (prov_cons (rfl) prov_nil)))) (⟨by show k + 1 ≤ l.length; omega, rfl⟩) (by repeat (first | exact List.Sublist.refl _ | apply List.Sublist.cons_cons | apply List.Sublist.cons)) (hle0)
 ·obtain rfl : k = l.length := by omega
  refine XC.exit ?_; refine seqX_exit ?_; refine loopX_exit ?_; refine blockHit rfl ?_; refine XC.seq2 ?_; refine XC.seq ?_; refine XC.region ?_; refine XO.move rfl rfl ?_; refine XO.assign rfl rfl ?_; refine XO.nil ?_; refine XC.seq2 ?_; refine XC.ret ?_; refine ⟨rfl, _, [], rfl, (by repeat (first | exact List.Sublist.refl _ | apply List.Sublist.cons)), RetR.mk ?_⟩
  exact congrArg (Value.int .i64) (by rw [List.take_length])

theorem common_fn (a b : Option Addr) (c d : Nat) (l l2 : List Int) (H : Hp) (hs : SlR (intR .i64) H a c l) (ht : SlR (intR .i64) H b d l2) (hl : l.length < 9223372036854775808) (hl2 : l2.length < 9223372036854775808) : FnC Try.prog 68 #[.slice a l.length c, .slice b l2.length d] H [] (RetR (fun v _ _ => v = .int .i64 (cmn l l2 : Nat))) := by
 refine FnC.intro (args := [.slice a l.length c, .slice b l2.length d]) Try.func68 rfl rfl Try.ntmps68 rfl rfl rfl fun G rest => ?_
 refine XC.seq ?_; refine XC.region ?_; refine XO.assign rfl rfl ?_; refine XO.nil ?_; refine XC.seq2 ?_; refine XC.seq ?_; refine XC.seq ?_; refine XC.region ?_; refine XO.move rfl rfl ?_; refine XO.lenS (ts := #[]) rfl Try.underlying26 rfl ?_; refine XO.move rfl rfl ?_; refine XO.nil ?_; refine XC.seq2 ?_; refine XC.block ?_; refine XC.keep [4, 9, 1, 7, 8] rfl ?_; refine XC.loop (base := [(1, _), (7, _), (8, _)]) (fun ζ : Nat => [(4, .int .i64 (cmn (l.take ζ) l2 : Nat)), (9, .int .i64 (ζ : Nat))]) (fun ζ Hl own => ζ ≤ l.length ∧ rest = own) (fun ζ => l.length - ζ) 0 (prov_cons (rfl) (prov_cons (rfl) (prov_cons (rfl) (prov_cons (rfl) (prov_cons (rfl) prov_nil))))) (by repeat (first | exact List.Sublist.refl _ | apply List.Sublist.cons_cons | apply List.Sublist.cons)) ⟨Nat.zero_le _, rfl⟩ ?_; rintro k Hl0 _ hle0 ⟨hkk, rfl⟩; replace hs := hs.mono hle0; replace ht := ht.mono hle0
 try dsimp only at ⊢
 refine XC.seq ?_; refine XC.region ?_; refine XO.lss rfl rfl rfl ?_; refine XO.nil ?_; refine XC.seq2 ?_; refine XC.seq ?_; refine XC.cond rfl (fun c0_1 => ?_) (fun c0_1 => ?_)
 ·refine XC.skip ?_; refine XC.seq2 ?_; refine XC.seq ?_; refine XC.block ?_; refine XC.seq ?_; refine XC.region ?_; refine XO.indexN rfl hs rfl Try.underlying26 ty_3 (by omega) rfl ?_; rintro eb11 eo11 _ x11 hx11 rfl hp11; refine XO.loadH rfl (by assumption) ty_3 rfl rfl rfl ?_; refine XO.assign rfl rfl ?_; refine XO.nil ?_; refine XC.seq2 ?_; refine XC.seq ?_; refine XC.region ?_
  have hct := cmn_k (a := l) (b := l2) (k := k)
  refine XO.move rfl rfl ?_; refine XO.move rfl rfl ?_; refine XO.callV rfl (contains_fn _ _ l2 _ ht hl2 x11) rfl ?_; refine XO.nil ?_; refine XC.seq2 ?_; refine XC.cond rfl (fun c1_4 => ?_) (fun c1_4 => ?_)
  ·refine XC.region ?_; refine XO.move rfl rfl ?_; refine XO.add rfl rfl (wrap_i64 (by omega) (by omega)) rfl ?_; refine XO.assign rfl rfl ?_; refine XO.nil ?_; refine blockN ?_; refine XC.seq2 ?_; refine XC.region ?_; refine XO.add rfl rfl (wrap_i64 (by omega) (by omega)) rfl ?_; refine XO.move rfl rfl ?_; refine XO.nil ?_; refine loop_next (k + 1) (by show l.length - (k + 1) < l.length - k; omega) (prov_cons (by first | exact provI rfl (cmn_y hx11 (by assumption)) | exact provI rfl (cmn_n hx11 (by assumption))) (prov_cons (rfl) (prov_cons (rfl) (prov_cons (rfl) (prov_cons (rfl) prov_nil))))) (⟨by show k + 1 ≤ l.length; omega, rfl⟩) (by repeat (first | exact List.Sublist.refl _ | apply List.Sublist.cons_cons | apply List.Sublist.cons)) (hle0)
  ·refine XC.skip ?_; refine blockN ?_; refine XC.seq2 ?_; refine XC.region ?_; refine XO.add rfl rfl (wrap_i64 (by omega) (by omega)) rfl ?_; refine XO.move rfl rfl ?_; refine XO.nil ?_; refine loop_next (k + 1) (by show l.length - (k + 1) < l.length - k; omega) (prov_cons (by first | exact provI rfl (cmn_y hx11 (by assumption)) | exact provI rfl (cmn_n hx11 (by assumption))) (prov_cons (rfl) (prov_cons (rfl) (prov_cons (rfl) (prov_cons (rfl) prov_nil))))) (⟨by show k + 1 ≤ l.length; omega, rfl⟩) (by repeat (first | exact List.Sublist.refl _ | apply List.Sublist.cons_cons | apply List.Sublist.cons)) (hle0)
 ·obtain rfl : k = l.length := by omega
  refine XC.exit ?_; refine seqX_exit ?_; refine loopX_exit ?_; refine blockHit rfl ?_; refine XC.seq2 ?_; refine XC.seq ?_; refine XC.region ?_; refine XO.move rfl rfl ?_; refine XO.assign rfl rfl ?_; refine XO.nil ?_; refine XC.seq2 ?_; refine XC.ret ?_; refine ⟨rfl, _, [], rfl, (by repeat (first | exact List.Sublist.refl _ | apply List.Sublist.cons)), RetR.mk ?_⟩
  exact congrArg (Value.int .i64) (by rw [List.take_length])

theorem rload_fn (a : Option Addr) (c : Nat) (l : Ls) (H : Hp) (hs : SlR ilR H a c l) (hl : l.length < 9223372036854775808) (hw : ∀ x ∈ l, x.length < 9223372036854775808) (j : Int) : FnC Try.prog 59 #[.slice a l.length c, .int .i64 j] H [] (RetR (fun v _ _ => v = .int .i64 (loadL l j : Nat))) := by
 refine FnC.intro (args := [.slice a l.length c, .int .i64 j]) Try.func59 rfl rfl Try.ntmps59 rfl rfl rfl fun G rest => ?_
 refine XC.seq ?_; refine XC.region ?_; refine XO.assign rfl rfl ?_; refine XO.nil ?_; refine XC.seq2 ?_; refine XC.seq ?_; refine XC.region ?_; refine XO.assign rfl rfl ?_; refine XO.nil ?_; refine XC.seq2 ?_; refine XC.seq ?_; refine XC.seq ?_; refine XC.region ?_; refine XO.assign rfl rfl ?_; refine XO.nil ?_; refine XC.seq2 ?_; refine XC.block ?_; refine XC.keep [5, 6, 0, 1] rfl ?_; refine XC.loop (base := [(0, _), (1, _)]) (fun ζ : Nat => [(5, .int .i64 (loadL (l.take ζ) j : Nat)), (6, .int .i64 (ζ : Nat))]) (fun ζ Hl own => ζ ≤ l.length ∧ rest = own) (fun ζ => l.length - ζ) 0 (prov_cons (rfl) (prov_cons (rfl) (prov_cons (rfl) (prov_cons (rfl) prov_nil)))) (by repeat (first | exact List.Sublist.refl _ | apply List.Sublist.cons_cons | apply List.Sublist.cons)) ⟨Nat.zero_le _, rfl⟩ ?_; rintro k Hl0 _ hle0 ⟨hkk, rfl⟩; replace hs := hs.mono hle0
 try dsimp only at ⊢
 refine XC.seq ?_; refine XC.seq ?_; refine XC.region ?_; refine XO.move rfl rfl ?_; refine XO.move rfl rfl ?_; refine XO.lenS (ts := #[]) rfl Try.underlying25 rfl ?_; refine XO.lss rfl rfl rfl ?_; refine XO.nil ?_; refine XC.seq2 ?_; refine XC.cond rfl (fun c0_1 => ?_) (fun c0_1 => ?_)
 ·refine XC.skip ?_; refine XC.seq2 ?_; refine XC.seq ?_; refine XC.block ?_; refine XC.seq ?_; refine XC.region ?_
  have hct := load_k (l := l) (j := j) (k := k)
  refine XO.move rfl rfl ?_; refine XO.move rfl rfl ?_; refine XO.indexN rfl hs rfl Try.underlying25 ty_26 (by omega) rfl ?_; rintro eb15 eo15 _ x15 hx15 ⟨ax15, cx15, rfl, hd15⟩ hp15; refine XO.loadH rfl (by assumption) ty_26 rfl rfl rfl ?_; refine XO.move rfl rfl ?_; refine XO.callV rfl (has_fn _ _ x15 _ hd15 (hw _ (List.mem_of_getElem? hx15)) j) rfl ?_; refine XO.nil ?_; refine XC.seq2 ?_; refine XC.cond rfl (fun c1_4 => ?_) (fun c1_4 => ?_)
  ·refine XC.region ?_; refine XO.move rfl rfl ?_; refine XO.add rfl rfl (wrap_i64 (by omega) (by omega)) rfl ?_; refine XO.assign rfl rfl ?_; refine XO.nil ?_; refine blockN ?_; refine XC.seq2 ?_; refine XC.region ?_; refine XO.move rfl rfl ?_; refine XO.add rfl rfl (wrap_i64 (by omega) (by omega)) rfl ?_; refine XO.assign rfl rfl ?_; refine XO.nil ?_; refine loop_next (k + 1) (by show l.length - (k + 1) < l.length - k; omega) (prov_cons (by first | exact provI rfl (load_y hx15 (by assumption)) | exact provI rfl (load_n hx15 (by assumption))) (prov_cons (rfl) (prov_cons (rfl) (prov_cons (rfl) prov_nil)))) (⟨by show k + 1 ≤ l.length; omega, rfl⟩) (by repeat (first | exact List.Sublist.refl _ | apply List.Sublist.cons_cons | apply List.Sublist.cons)) (hle0)
  ·refine XC.skip ?_; refine blockN ?_; refine XC.seq2 ?_; refine XC.region ?_; refine XO.move rfl rfl ?_; refine XO.add rfl rfl (wrap_i64 (by omega) (by omega)) rfl ?_; refine XO.assign rfl rfl ?_; refine XO.nil ?_; refine loop_next (k + 1) (by show l.length - (k + 1) < l.length - k; omega) (prov_cons (by first | exact provI rfl (load_y hx15 (by assumption)) | exact provI rfl (load_n hx15 (by assumption))) (prov_cons (rfl) (prov_cons (rfl) (prov_cons (rfl) prov_nil)))) (⟨by show k + 1 ≤ l.length; omega, rfl⟩) (by repeat (first | exact List.Sublist.refl _ | apply List.Sublist.cons_cons | apply List.Sublist.cons)) (hle0)
 ·obtain rfl : k = l.length := by omega
  refine XC.exit ?_; refine seqX_exit ?_; refine loopX_exit ?_; refine blockHit rfl ?_; refine XC.seq2 ?_; refine XC.seq ?_; refine XC.region ?_; refine XO.move rfl rfl ?_; refine XO.assign rfl rfl ?_; refine XO.nil ?_; refine XC.seq2 ?_; refine XC.ret ?_; refine ⟨rfl, _, [], rfl, (by repeat (first | exact List.Sublist.refl _ | apply List.Sublist.cons)), RetR.mk ?_⟩
  exact congrArg (Value.int .i64) (by rw [List.take_length])

theorem sameInts_fn (a b : Option Addr) (c d : Nat) (l l2 : List Int) (H : Hp) (hs : SlR (intR .i64) H a c l) (ht : SlR (intR .i64) H b d l2) (hl : l.length < 9223372036854775808) : FnC Try.prog 34 #[.slice a l.length c, .slice b l2.length d] H [] (RetR (fun v _ _ => v = .bool (decide (l = l2)))) := by
 refine FnC.intro (args := [.slice a l.length c, .slice b l2.length d]) Try.func34 rfl rfl Try.ntmps34 rfl rfl rfl fun G rest => ?_
 refine XC.seq ?_; refine XC.region ?_; refine XO.assign rfl rfl ?_; refine XO.nil ?_; refine XC.seq2 ?_; refine XC.seq ?_; refine XC.seq ?_; refine XC.region ?_; refine XO.move rfl rfl ?_; refine XO.lenS (ts := #[]) rfl Try.underlying26 rfl ?_; refine XO.move rfl rfl ?_; refine XO.lenS (ts := #[]) rfl Try.underlying26 rfl ?_; refine XO.neq rfl rfl rfl ?_; refine XO.nil ?_; refine XC.seq2 ?_; refine XC.cond rfl (fun c0_1 => ?_) (fun c0_1 => ?_)
 ·refine XC.seq ?_; refine XC.region ?_; refine XO.assign rfl rfl ?_; refine XO.nil ?_; refine XC.seq2 ?_; refine XC.ret ?_; refine seqX_ret ?_; refine ⟨rfl, _, [], rfl, (by repeat (first | exact List.Sublist.refl _ | apply List.Sublist.cons)), RetR.mk ?_⟩
  exact congrArg Value.bool (decide_eq_false (fun h => by have := congrArg List.length h; omega)).symm
 ·refine XC.skip ?_; refine XC.seq2 ?_; refine XC.seq ?_; refine XC.seq ?_; refine XC.region ?_; refine XO.assign rfl rfl ?_; refine XO.nil ?_; refine XC.seq2 ?_; refine XC.block ?_; refine XC.keep [5, 0, 1] rfl ?_; refine XC.loop (base := [(0, _), (1, _)]) (fun ζ : Nat => [(5, .int .i64 (ζ : Nat))]) (fun ζ Hl own => ζ ≤ l.length ∧ rest = own ∧ (l.take ζ = l2.take ζ)) (fun ζ => l.length - ζ) 0 (prov_cons (rfl) (prov_cons (rfl) (prov_cons (rfl) prov_nil))) (by repeat (first | exact List.Sublist.refl _ | apply List.Sublist.cons_cons | apply List.Sublist.cons)) ⟨Nat.zero_le _, rfl, by simp⟩ ?_; rintro k Hl0 _ hle0 ⟨hkk, rfl, heq⟩; replace hs := hs.mono hle0; replace ht := ht.mono hle0
  try dsimp only at ⊢
  refine XC.seq ?_; refine XC.seq ?_; refine XC.region ?_; refine XO.move rfl rfl ?_; refine XO.move rfl rfl ?_; refine XO.lenS (ts := #[]) rfl Try.underlying26 rfl ?_; refine XO.lss rfl rfl rfl ?_; refine XO.nil ?_; refine XC.seq2 ?_; refine XC.cond rfl (fun c1_2 => ?_) (fun c1_2 => ?_)
  ·refine XC.skip ?_; refine XC.seq2 ?_; refine XC.seq ?_; refine XC.block ?_; refine XC.seq ?_; refine XC.keep [0, 1, 5] rfl ?_; obtain ⟨bEX, oEX, rfl⟩ := hs.addr (by omega); obtain ⟨_, xX, hxX, rfl, hpX⟩ := hs.elem (k) (by omega); obtain ⟨bEY, oEY, rfl⟩ := ht.addr (by omega); obtain ⟨_, xY, hxY, rfl, hpY⟩ := ht.elem (k) (by omega)
   apply XC.draw 8 [eqF _, eqF _, eqF _, eqF _, eqF _, eqF _, eqF _, eqF _] follows (by kernel_rfl) (by kernel_rfl) ⟨eqF_mono _, eqF_mono _, eqF_mono _, eqF_mono _, eqF_mono _, eqF_mono _, eqF_mono _, eqF_mono _, trivial⟩ ?steps3 ?tail3
   case steps3 =>
    refine stepsK_cons rfl ?_ ?_
    ·intro X
     refine withPreds_nil rfl ?_; refine XO.move rfl rfl ?_; refine XO.nil ?_
     exact stepQ_ok rfl (rfl)
    refine stepsK_cons rfl ?_ ?_
    ·intro X
     refine withPreds_nil rfl ?_; refine XO.move rfl rfl ?_; refine XO.nil ?_
     exact stepQ_ok rfl (rfl)
    refine stepsK_cons rfl ?_ ?_
    ·intro X
     refine withPreds_cons rfl rfl ?_; rintro _ rfl; refine withPreds_cons rfl rfl ?_; rintro _ rfl; refine withPreds_nil rfl ?_; refine XO.indexE rfl rfl Try.underlying26 ty_3 (by omega) (by omega) rfl ?_; refine XO.nil ?_
     exact stepQ_ok rfl (rfl)
    refine stepsK_cons rfl ?_ ?_
    ·intro X
     refine withPreds_cons rfl rfl ?_; rintro _ rfl; refine withPreds_nil rfl ?_; refine XO.loadH rfl (by assumption) ty_3 rfl rfl rfl ?_; refine XO.nil ?_
     exact stepQ_ok rfl (rfl)
    refine stepsK_cons rfl ?_ ?_
    ·intro X
     refine withPreds_nil rfl ?_; refine XO.move rfl rfl ?_; refine XO.nil ?_
     exact stepQ_ok rfl (rfl)
    refine stepsK_cons rfl ?_ ?_
    ·intro X
     refine withPreds_nil rfl ?_; refine XO.move rfl rfl ?_; refine XO.nil ?_
     exact stepQ_ok rfl (rfl)
    refine stepsK_cons rfl ?_ ?_
    ·intro X
     refine withPreds_cons rfl rfl ?_; rintro _ rfl; refine withPreds_cons rfl rfl ?_; rintro _ rfl; refine withPreds_nil rfl ?_; refine XO.indexE rfl rfl Try.underlying26 ty_3 (by omega) (by omega) rfl ?_; refine XO.nil ?_
     exact stepQ_ok rfl (rfl)
    refine stepsK_cons rfl ?_ ?_
    ·intro X
     refine withPreds_cons rfl rfl ?_; rintro _ rfl; refine withPreds_nil rfl ?_; refine XO.loadH rfl (by assumption) ty_3 rfl rfl rfl ?_; refine XO.nil ?_
     exact stepQ_ok rfl (rfl)
    exact stepsD_end rfl
   case tail3 =>
    refine withPreds_cons rfl rfl ?_; rintro _ rfl; refine withPreds_cons rfl rfl ?_; rintro _ rfl; refine withPreds_cons rfl rfl ?_; rintro _ rfl; refine withPreds_cons rfl rfl ?_; rintro _ rfl; refine withPreds_cons rfl rfl ?_; rintro _ rfl; refine withPreds_cons rfl rfl ?_; rintro _ rfl; refine withPreds_cons rfl rfl ?_; rintro _ rfl; refine withPreds_cons rfl rfl ?_; rintro _ rfl; refine withPreds_nil rfl ?_; refine XO.neq rfl rfl rfl ?_; refine XO.nil ?_; refine XC.seq2 ?_; refine XC.cond rfl (fun c2_6 => ?_) (fun c2_6 => ?_)
    ·refine XC.seq ?_; refine XC.region ?_; refine XO.assign rfl rfl ?_; refine XO.nil ?_; refine XC.seq2 ?_; refine XC.ret ?_; refine blockR ?_; refine seqX_ret ?_; refine loopX_ret ?_; refine blockR ?_; refine seqX_ret ?_; refine ⟨rfl, _, [], rfl, (by repeat (first | exact List.Sublist.refl _ | apply List.Sublist.cons)), RetR.mk ?_⟩
     exact congrArg Value.bool (decide_eq_false (fun h => by subst h; exact absurd (Option.some.inj (hxX.symm.trans hxY)) (by simp_all))).symm
    ·refine XC.skip ?_; refine blockN ?_; refine XC.seq2 ?_; refine XC.region ?_; refine XO.move rfl rfl ?_; refine XO.add rfl rfl (wrap_i64 (by omega) (by omega)) rfl ?_; refine XO.assign rfl rfl ?_; refine XO.nil ?_; refine loop_next (k + 1) (by show l.length - (k + 1) < l.length - k; omega) (prov_cons (rfl) (prov_cons (rfl) (prov_cons (rfl) prov_nil))) (⟨by show k + 1 ≤ l.length; omega, rfl, by rw [take_snoc hxX, take_snoc hxY, heq, show xX = xY from Decidable.not_not.1 (by assumption)]⟩) (by repeat (first | exact List.Sublist.refl _ | apply List.Sublist.cons_cons | apply List.Sublist.cons)) (hle0)
  ·obtain rfl : k = l.length := by omega
   rw [List.take_length] at heq
   refine XC.exit ?_; refine seqX_exit ?_; refine loopX_exit ?_; refine blockHit rfl ?_; refine XC.seq2 ?_; refine XC.seq ?_; refine XC.region ?_; refine XO.assign rfl rfl ?_; refine XO.nil ?_; refine XC.seq2 ?_; refine XC.ret ?_; refine ⟨rfl, _, [], rfl, (by repeat (first | exact List.Sublist.refl _ | apply List.Sublist.cons)), RetR.mk ?_⟩
   exact congrArg Value.bool (decide_eq_true (heq.trans (List.take_of_length_le (by omega)))).symm

theorem same_fn (a b : Option Addr) (c d : Nat) (l l2 : List (List Int)) (H : Hp) (hs : SlR ilR H a c l) (ht : SlR ilR H b d l2) (hl : l.length < 9223372036854775808) (hw : ∀ x ∈ l, x.length < 9223372036854775808) : FnC Try.prog 15 #[.slice a l.length c, .slice b l2.length d] H [] (RetR (fun v _ _ => v = .bool (decide (l = l2)))) := by
 refine FnC.intro (args := [.slice a l.length c, .slice b l2.length d]) Try.func15 rfl rfl Try.ntmps15 rfl rfl rfl fun G rest => ?_
 refine XC.seq ?_; refine XC.region ?_; refine XO.assign rfl rfl ?_; refine XO.nil ?_; refine XC.seq2 ?_; refine XC.seq ?_; refine XC.seq ?_; refine XC.region ?_; refine XO.move rfl rfl ?_; refine XO.lenS (ts := #[]) rfl Try.underlying25 rfl ?_; refine XO.move rfl rfl ?_; refine XO.lenS (ts := #[]) rfl Try.underlying25 rfl ?_; refine XO.neq rfl rfl rfl ?_; refine XO.nil ?_; refine XC.seq2 ?_; refine XC.cond rfl (fun c0_1 => ?_) (fun c0_1 => ?_)
 ·refine XC.seq ?_; refine XC.region ?_; refine XO.assign rfl rfl ?_; refine XO.nil ?_; refine XC.seq2 ?_; refine XC.ret ?_; refine seqX_ret ?_; refine ⟨rfl, _, [], rfl, (by repeat (first | exact List.Sublist.refl _ | apply List.Sublist.cons)), RetR.mk ?_⟩
  exact congrArg Value.bool (decide_eq_false (fun h => by have := congrArg List.length h; omega)).symm
 ·refine XC.skip ?_; refine XC.seq2 ?_; refine XC.seq ?_; refine XC.seq ?_; refine XC.region ?_; refine XO.assign rfl rfl ?_; refine XO.nil ?_; refine XC.seq2 ?_; refine XC.block ?_; refine XC.keep [5, 0, 1] rfl ?_; refine XC.loop (base := [(0, _), (1, _)]) (fun ζ : Nat => [(5, .int .i64 (ζ : Nat))]) (fun ζ Hl own => ζ ≤ l.length ∧ rest = own ∧ (l.take ζ = l2.take ζ)) (fun ζ => l.length - ζ) 0 (prov_cons (rfl) (prov_cons (rfl) (prov_cons (rfl) prov_nil))) (by repeat (first | exact List.Sublist.refl _ | apply List.Sublist.cons_cons | apply List.Sublist.cons)) ⟨Nat.zero_le _, rfl, by simp⟩ ?_; rintro k Hl0 _ hle0 ⟨hkk, rfl, heq⟩; replace hs := hs.mono hle0; replace ht := ht.mono hle0
  try dsimp only at ⊢
  refine XC.seq ?_; refine XC.seq ?_; refine XC.region ?_; refine XO.move rfl rfl ?_; refine XO.move rfl rfl ?_; refine XO.lenS (ts := #[]) rfl Try.underlying25 rfl ?_; refine XO.lss rfl rfl rfl ?_; refine XO.nil ?_; refine XC.seq2 ?_; refine XC.cond rfl (fun c1_2 => ?_) (fun c1_2 => ?_)
  ·refine XC.skip ?_; refine XC.seq2 ?_; refine XC.seq ?_; refine XC.block ?_; refine XC.seq ?_; refine XC.keep [0, 1, 5] rfl ?_; obtain ⟨bEX, oEX, rfl⟩ := hs.addr (by omega); obtain ⟨_, xX, hxX, ⟨axX, cxX, rfl, hdX⟩, hpX⟩ := hs.elem (k) (by omega); obtain ⟨bEY, oEY, rfl⟩ := ht.addr (by omega); obtain ⟨_, xY, hxY, ⟨axY, cxY, rfl, hdY⟩, hpY⟩ := ht.elem (k) (by omega)
   apply XC.draw 8 [eqF _, eqF _, eqF _, eqF _, eqF _, eqF _, eqF _, eqF _] follows (by kernel_rfl) (by kernel_rfl) ⟨eqF_mono _, eqF_mono _, eqF_mono _, eqF_mono _, eqF_mono _, eqF_mono _, eqF_mono _, eqF_mono _, trivial⟩ ?steps3 ?tail3
   case steps3 =>
    refine stepsK_cons rfl ?_ ?_
    ·intro X
     refine withPreds_nil rfl ?_; refine XO.move rfl rfl ?_; refine XO.nil ?_
     exact stepQ_ok rfl (rfl)
    refine stepsK_cons rfl ?_ ?_
    ·intro X
     refine withPreds_nil rfl ?_; refine XO.move rfl rfl ?_; refine XO.nil ?_
     exact stepQ_ok rfl (rfl)
    refine stepsK_cons rfl ?_ ?_
    ·intro X
     refine withPreds_cons rfl rfl ?_; rintro _ rfl; refine withPreds_cons rfl rfl ?_; rintro _ rfl; refine withPreds_nil rfl ?_; refine XO.indexE rfl rfl Try.underlying25 ty_26 (by omega) (by omega) rfl ?_; refine XO.nil ?_
     exact stepQ_ok rfl (rfl)
    refine stepsK_cons rfl ?_ ?_
    ·intro X
     refine withPreds_cons rfl rfl ?_; rintro _ rfl; refine withPreds_nil rfl ?_; refine XO.loadH rfl (by assumption) ty_26 rfl rfl rfl ?_; refine XO.nil ?_
     exact stepQ_ok rfl (rfl)
    refine stepsK_cons rfl ?_ ?_
    ·intro X
     refine withPreds_nil rfl ?_; refine XO.move rfl rfl ?_; refine XO.nil ?_
     exact stepQ_ok rfl (rfl)
    refine stepsK_cons rfl ?_ ?_
    ·intro X
     refine withPreds_nil rfl ?_; refine XO.move rfl rfl ?_; refine XO.nil ?_
     exact stepQ_ok rfl (rfl)
    refine stepsK_cons rfl ?_ ?_
    ·intro X
     refine withPreds_cons rfl rfl ?_; rintro _ rfl; refine withPreds_cons rfl rfl ?_; rintro _ rfl; refine withPreds_nil rfl ?_; refine XO.indexE rfl rfl Try.underlying25 ty_26 (by omega) (by omega) rfl ?_; refine XO.nil ?_
     exact stepQ_ok rfl (rfl)
    refine stepsK_cons rfl ?_ ?_
    ·intro X
     refine withPreds_cons rfl rfl ?_; rintro _ rfl; refine withPreds_nil rfl ?_; refine XO.loadH rfl (by assumption) ty_26 rfl rfl rfl ?_; refine XO.nil ?_
     exact stepQ_ok rfl (rfl)
    exact stepsD_end rfl
   case tail3 =>
    refine withPreds_cons rfl rfl ?_; rintro _ rfl; refine withPreds_cons rfl rfl ?_; rintro _ rfl; refine withPreds_cons rfl rfl ?_; rintro _ rfl; refine withPreds_cons rfl rfl ?_; rintro _ rfl; refine withPreds_cons rfl rfl ?_; rintro _ rfl; refine withPreds_cons rfl rfl ?_; rintro _ rfl; refine withPreds_cons rfl rfl ?_; rintro _ rfl; refine withPreds_cons rfl rfl ?_; rintro _ rfl; refine withPreds_nil rfl ?_; refine XO.callV rfl (sameInts_fn _ _ _ _ xX xY _ hdX hdY (hw _ (List.mem_of_getElem? hxX))) rfl ?_; refine XO.not rfl rfl ?_; refine XO.nil ?_; refine XC.seq2 ?_; refine XC.cond rfl (fun c2_7 => ?_) (fun c2_7 => ?_)
    ·refine XC.seq ?_; refine XC.region ?_; refine XO.assign rfl rfl ?_; refine XO.nil ?_; refine XC.seq2 ?_; refine XC.ret ?_; refine blockR ?_; refine seqX_ret ?_; refine loopX_ret ?_; refine blockR ?_; refine seqX_ret ?_; refine ⟨rfl, _, [], rfl, (by repeat (first | exact List.Sublist.refl _ | apply List.Sublist.cons)), RetR.mk ?_⟩
     exact congrArg Value.bool (decide_eq_false (fun h => by subst h; exact absurd (Option.some.inj (hxX.symm.trans hxY)) (by simp_all))).symm
    ·refine XC.skip ?_; refine blockN ?_; refine XC.seq2 ?_; refine XC.region ?_; refine XO.move rfl rfl ?_; refine XO.add rfl rfl (wrap_i64 (by omega) (by omega)) rfl ?_; refine XO.assign rfl rfl ?_; refine XO.nil ?_; refine loop_next (k + 1) (by show l.length - (k + 1) < l.length - k; omega) (prov_cons (rfl) (prov_cons (rfl) (prov_cons (rfl) prov_nil))) (⟨by show k + 1 ≤ l.length; omega, rfl, by rw [take_snoc hxX, take_snoc hxY, heq, show xX = xY from by simp_all]⟩) (by repeat (first | exact List.Sublist.refl _ | apply List.Sublist.cons_cons | apply List.Sublist.cons)) (hle0)
  ·obtain rfl : k = l.length := by omega
   rw [List.take_length] at heq
   refine XC.exit ?_; refine seqX_exit ?_; refine loopX_exit ?_; refine blockHit rfl ?_; refine XC.seq2 ?_; refine XC.seq ?_; refine XC.region ?_; refine XO.assign rfl rfl ?_; refine XO.nil ?_; refine XC.seq2 ?_; refine XC.ret ?_; refine ⟨rfl, _, [], rfl, (by repeat (first | exact List.Sublist.refl _ | apply List.Sublist.cons)), RetR.mk ?_⟩
   exact congrArg Value.bool (decide_eq_true (heq.trans (List.take_of_length_le (by omega)))).symm

end Go.Proofs

/- The walks of the functions of repairs: what each of them computes, at any input. -/
set_option autoImplicit false
set_option linter.unusedVariables false
set_option linter.unusedSimpArgs false
namespace Go.Proofs
open Go.XL

theorem fa_24_0 : fieldF Try.prog 24 0 = some 0 := by kernel_rfl
theorem fa_24_1 : fieldF Try.prog 24 1 = some 1 := by kernel_rfl
theorem fa_24_2 : fieldF Try.prog 24 2 = some 2 := by kernel_rfl
theorem fa_24_3 : fieldF Try.prog 24 3 = some 3 := by kernel_rfl
theorem ty_22 : tyF Try.prog 22 1 false = true := by kernel_rfl
theorem ty_4 : tyF Try.prog 4 1 false = true := by kernel_rfl
theorem ty_68 : tyF Try.prog 68 1 false = true := by kernel_rfl

theorem right_fn (w : Wi) (aB : Option Addr) (cB : Nat) (H : Hp) (hB : SlR tbR H aB cB w.B) (hBl : w.B.length < 9223372036854775808) : FnC Try.prog 52 #[.agg ⟨[.int .i64 w.J, .int .i64 w.S, .int .i64 w.N, .slice aB w.B.length cB]⟩] H [] (RetR (fun v _ _ => v = .bool (decide (rightW w)))) := by
 refine FnC.intro (args := [.agg ⟨[.int .i64 w.J, .int .i64 w.S, .int .i64 w.N, .slice aB w.B.length cB]⟩]) Try.func52 rfl rfl Try.ntmps52 rfl rfl rfl fun G rest => ?_
 refine XC.seq ?_; refine XC.region ?_; refine XO.box rfl rfl rfl (fun b1 => ?_); refine XO.assign rfl rfl ?_; refine XO.nil ?_; refine XC.seq2 ?_; refine XC.seq ?_; refine XC.seq ?_; refine XC.region ?_; refine XO.fieldAddr rfl fa_24_0 rfl ?_; refine XO.loadO 0 rfl rfl ty_3 rfl rfl rfl ?_; refine XO.lss rfl rfl rfl ?_; refine XO.move rfl rfl ?_; refine XO.guardC rfl rfl rfl rfl (fun g1 => ?_) (fun g1 => ?_)
 ·have g1p := of_decide_eq_false g1
  refine XO.fieldAddr rfl fa_24_0 rfl ?_; refine XO.guardT rfl rfl (g1) rfl ?_; refine XO.loadO 0 rfl rfl ty_3 rfl rfl rfl ?_; refine XO.guardT rfl rfl (g1) rfl ?_; refine XO.gtr rfl rfl rfl ?_; refine XO.pickF rfl (g1) rfl rfl ?_; refine XO.move rfl rfl ?_; refine XO.guardC rfl rfl rfl rfl (fun g2 => ?_) (fun g2 => ?_)
  ·have g2p := of_decide_eq_false g2
   refine XO.fieldAddr rfl fa_24_1 rfl ?_; refine XO.guardT rfl rfl (g2) rfl ?_; refine XO.loadO 0 rfl rfl ty_3 rfl rfl rfl ?_; refine XO.guardT rfl rfl (g2) rfl ?_; refine XO.lss rfl rfl rfl ?_; refine XO.pickF rfl (g2) rfl rfl ?_; refine XO.move rfl rfl ?_; refine XO.guardC rfl rfl rfl rfl (fun g3 => ?_) (fun g3 => ?_)
   ·have g3p := of_decide_eq_false g3
    refine XO.fieldAddr rfl fa_24_1 rfl ?_; refine XO.guardT rfl rfl (g3) rfl ?_; refine XO.loadO 0 rfl rfl ty_3 rfl rfl rfl ?_; refine XO.guardT rfl rfl (g3) rfl ?_; refine XO.fieldAddr rfl fa_24_0 rfl ?_; refine XO.guardT rfl rfl (g3) rfl ?_; refine XO.loadO 0 rfl rfl ty_3 rfl rfl rfl ?_; refine XO.guardT rfl rfl (g3) rfl ?_; refine XO.gtr rfl rfl rfl ?_; refine XO.pickF rfl (g3) rfl rfl ?_; refine XO.move rfl rfl ?_; refine XO.guardC rfl rfl rfl rfl (fun g4 => ?_) (fun g4 => ?_)
    ·have g4p := of_decide_eq_false g4
     refine XO.fieldAddr rfl fa_24_2 rfl ?_; refine XO.guardT rfl rfl (g4) rfl ?_; refine XO.loadO 0 rfl rfl ty_3 rfl rfl rfl ?_; refine XO.guardT rfl rfl (g4) rfl ?_; refine XO.lss rfl rfl rfl ?_; refine XO.pickF rfl (g4) rfl rfl ?_; refine XO.move rfl rfl ?_; refine XO.guardC rfl rfl rfl rfl (fun g5 => ?_) (fun g5 => ?_)
     ·have g5p := of_decide_eq_false g5
      refine XO.fieldAddr rfl fa_24_2 rfl ?_; refine XO.guardT rfl rfl (g5) rfl ?_; refine XO.loadO 0 rfl rfl ty_3 rfl rfl rfl ?_; refine XO.guardT rfl rfl (g5) rfl ?_; refine XO.fieldAddr rfl fa_24_1 rfl ?_; refine XO.guardT rfl rfl (g5) rfl ?_; refine XO.loadO 0 rfl rfl ty_3 rfl rfl rfl ?_; refine XO.guardT rfl rfl (g5) rfl ?_; refine XO.gtr rfl rfl rfl ?_; refine XO.pickF rfl (g5) rfl rfl ?_; refine XO.move rfl rfl ?_; refine XO.guardC rfl rfl rfl rfl (fun g6 => ?_) (fun g6 => ?_)
      ·have g6p := of_decide_eq_false g6
       refine XO.fieldAddr rfl fa_24_3 rfl ?_; refine XO.guardT rfl rfl (g6) rfl ?_; refine XO.loadO 0 rfl rfl ty_22 rfl rfl rfl ?_; refine XO.guardT rfl rfl (g6) rfl ?_; refine XO.lenS (ts := #[]) rfl Try.underlying22 rfl ?_; refine XO.guardT rfl rfl (g6) rfl ?_; refine XO.gtr rfl rfl rfl ?_; refine XO.pickF rfl (g6) rfl rfl ?_; refine XO.nil ?_; refine XC.seq2 ?_; refine XC.cond rfl (fun c0_7 => ?_) (fun c0_7 => ?_)
       ·refine XC.seq ?_; refine XC.region ?_; refine XO.assign rfl rfl ?_; refine XO.nil ?_; refine XC.seq2 ?_; refine XC.ret ?_; refine seqX_ret ?_; refine ⟨rfl, _, [], rfl, (by repeat (first | exact List.Sublist.refl _ | apply List.Sublist.cons)), RetR.mk ?_⟩
        first | exact congrArg Value.bool (decide_eq_false (fun h => by unfold rightW at h; omega)).symm | exact congrArg Value.bool (decide_eq_false (fun h => absurd (h.2.2 _ (List.mem_of_getElem? hx48)) (by assumption))).symm | exact congrArg Value.bool (decide_eq_true (⟨by omega, by omega, fun r hr => Decidable.not_not.1 (hno r hr)⟩)).symm
       ·refine XC.skip ?_; refine XC.seq2 ?_; refine XC.seq ?_; refine XC.seq ?_; refine XC.region ?_; refine XO.fieldAddr rfl fa_24_3 rfl ?_; refine XO.loadO 0 rfl rfl ty_22 rfl rfl rfl ?_; refine XO.lenS (ts := #[]) rfl Try.underlying22 rfl ?_; refine XO.move rfl rfl ?_; refine XO.nil ?_; refine XC.seq2 ?_; refine XC.block ?_; refine XC.keep [46, 1, 44, 45] rfl ?_; refine XC.loop (base := [(1, _), (44, _), (45, _)]) (fun ζ : Nat => [(46, .int .i64 (ζ : Nat))]) (fun ζ Hl own => ζ ≤ w.B.length ∧ (b1, .cells 24 [.int .i64 w.J, .int .i64 w.S, .int .i64 w.N, .slice aB w.B.length cB]) :: rest = own ∧ (∀ r ∈ w.B.take ζ, ¬ ((r.length : Int) ≠ w.J))) (fun ζ => w.B.length - ζ) 0 (prov_cons (rfl) (prov_cons (rfl) (prov_cons (rfl) (prov_cons (rfl) prov_nil)))) (by repeat (first | exact List.Sublist.refl _ | apply List.Sublist.cons_cons | apply List.Sublist.cons)) ⟨Nat.zero_le _, rfl, by simp⟩ ?_; rintro k Hl0 _ hle0 ⟨hkk, rfl, hno⟩; replace hB := hB.mono hle0
        try dsimp only at ⊢
        refine XC.seq ?_; refine XC.region ?_; refine XO.lss rfl rfl rfl ?_; refine XO.nil ?_; refine XC.seq2 ?_; refine XC.seq ?_; refine XC.cond rfl (fun c1_8 => ?_) (fun c1_8 => ?_)
        ·refine XC.skip ?_; refine XC.seq2 ?_; refine XC.seq ?_; refine XC.block ?_; refine XC.seq ?_; refine XC.region ?_; refine XO.indexN rfl hB rfl Try.underlying22 ty_68 (by omega) rfl ?_; rintro eb48 eo48 _ x48 hx48 ⟨ax48, cx48, rfl, hd48⟩ hp48; refine XO.loadH rfl (by assumption) ty_68 rfl rfl rfl ?_; refine XO.assign rfl rfl ?_; refine XO.nil ?_; refine XC.seq2 ?_; refine XC.seq ?_; refine XC.region ?_; refine XO.move rfl rfl ?_; refine XO.lenS (ts := #[]) rfl Try.underlying68 rfl ?_; refine XO.fieldAddr rfl fa_24_0 rfl ?_; refine XO.loadO 0 rfl rfl ty_3 rfl rfl rfl ?_; refine XO.neq rfl rfl rfl ?_; refine XO.nil ?_; refine XC.seq2 ?_; refine XC.cond rfl (fun c2_10 => ?_) (fun c2_10 => ?_)
         ·refine XC.seq ?_; refine XC.region ?_; refine XO.assign rfl rfl ?_; refine XO.nil ?_; refine XC.seq2 ?_; refine XC.ret ?_; refine blockR ?_; refine seqX_ret ?_; refine loopX_ret ?_; refine blockR ?_; refine seqX_ret ?_; refine ⟨rfl, _, [], rfl, (by repeat (first | exact List.Sublist.refl _ | apply List.Sublist.cons)), RetR.mk ?_⟩
          first | exact congrArg Value.bool (decide_eq_false (fun h => by unfold rightW at h; omega)).symm | exact congrArg Value.bool (decide_eq_false (fun h => absurd (h.2.2 _ (List.mem_of_getElem? hx48)) (by assumption))).symm | exact congrArg Value.bool (decide_eq_true (⟨by omega, by omega, fun r hr => Decidable.not_not.1 (hno r hr)⟩)).symm
         ·refine XC.skip ?_; refine blockN ?_; refine XC.seq2 ?_; refine XC.region ?_; refine XO.add rfl rfl (wrap_i64 (by omega) (by omega)) rfl ?_; refine XO.move rfl rfl ?_; refine XO.nil ?_; refine loop_next (k + 1) (by show w.B.length - (k + 1) < w.B.length - k; omega) (prov_cons (rfl) (prov_cons (rfl) (prov_cons (rfl) (prov_cons (rfl) prov_nil)))) (⟨by show k + 1 ≤ w.B.length; omega, rfl, all_snoc hno hx48 (by omega)⟩) (by repeat (first | exact List.Sublist.refl _ | apply List.Sublist.cons_cons | apply List.Sublist.cons)) (hle0)
        ·obtain rfl : k = w.B.length := by omega
         rw [List.take_length] at hno
         refine XC.exit ?_; refine seqX_exit ?_; refine loopX_exit ?_; refine blockHit rfl ?_; refine XC.seq2 ?_; refine XC.seq ?_; refine XC.region ?_; refine XO.assign rfl rfl ?_; refine XO.nil ?_; refine XC.seq2 ?_; refine XC.ret ?_; refine ⟨rfl, _, [], rfl, (by repeat (first | exact List.Sublist.refl _ | apply List.Sublist.cons)), RetR.mk ?_⟩
         first | exact congrArg Value.bool (decide_eq_false (fun h => by unfold rightW at h; omega)).symm | exact congrArg Value.bool (decide_eq_false (fun h => absurd (h.2.2 _ (List.mem_of_getElem? hx48)) (by assumption))).symm | exact congrArg Value.bool (decide_eq_true (⟨by omega, by omega, fun r hr => Decidable.not_not.1 (hno r hr)⟩)).symm
      ·have g6p := of_decide_eq_true g6
       refine XO.guardF rfl rfl (g6) rfl rfl ?_; refine XO.guardF rfl rfl (g6) rfl rfl ?_; refine XO.guardF rfl rfl (g6) rfl rfl ?_; refine XO.pickT rfl (g6) rfl rfl ?_; refine XO.nil ?_; refine XC.seq2 ?_; refine XC.condT rfl (rfl) ?_; refine XC.seq ?_; refine XC.region ?_; refine XO.assign rfl rfl ?_; refine XO.nil ?_; refine XC.seq2 ?_; refine XC.ret ?_; refine seqX_ret ?_; refine ⟨rfl, _, [], rfl, (by repeat (first | exact List.Sublist.refl _ | apply List.Sublist.cons)), RetR.mk ?_⟩
       first | exact congrArg Value.bool (decide_eq_false (fun h => by unfold rightW at h; omega)).symm | exact congrArg Value.bool (decide_eq_false (fun h => absurd (h.2.2 _ (List.mem_of_getElem? hx48)) (by assumption))).symm | exact congrArg Value.bool (decide_eq_true (⟨by omega, by omega, fun r hr => Decidable.not_not.1 (hno r hr)⟩)).symm
     ·have g5p := of_decide_eq_true g5
      refine XO.guardF rfl rfl (g5) rfl rfl ?_; refine XO.guardF rfl rfl (g5) rfl rfl ?_; refine XO.guardF rfl rfl (g5) rfl rfl ?_; refine XO.guardF rfl rfl (g5) rfl rfl ?_; refine XO.pickT rfl (g5) rfl rfl ?_; refine XO.move rfl rfl ?_; refine XO.guardF rfl rfl (rfl) rfl rfl ?_; refine XO.guardF rfl rfl (rfl) rfl rfl ?_; refine XO.guardF rfl rfl (rfl) rfl rfl ?_; refine XO.guardF rfl rfl (rfl) rfl rfl ?_; refine XO.pickT rfl (rfl) rfl rfl ?_; refine XO.nil ?_; refine XC.seq2 ?_; refine XC.condT rfl (rfl) ?_; refine XC.seq ?_; refine XC.region ?_; refine XO.assign rfl rfl ?_; refine XO.nil ?_; refine XC.seq2 ?_; refine XC.ret ?_; refine seqX_ret ?_; refine ⟨rfl, _, [], rfl, (by repeat (first | exact List.Sublist.refl _ | apply List.Sublist.cons)), RetR.mk ?_⟩
      first | exact congrArg Value.bool (decide_eq_false (fun h => by unfold rightW at h; omega)).symm | exact congrArg Value.bool (decide_eq_false (fun h => absurd (h.2.2 _ (List.mem_of_getElem? hx48)) (by assumption))).symm | exact congrArg Value.bool (decide_eq_true (⟨by omega, by omega, fun r hr => Decidable.not_not.1 (hno r hr)⟩)).symm
    ·have g4p := of_decide_eq_true g4
     refine XO.guardF rfl rfl (g4) rfl rfl ?_; refine XO.guardF rfl rfl (g4) rfl rfl ?_; refine XO.pickT rfl (g4) rfl rfl ?_; refine XO.move rfl rfl ?_; refine XO.guardF rfl rfl (rfl) rfl rfl ?_; refine XO.guardF rfl rfl (rfl) rfl rfl ?_; refine XO.guardF rfl rfl (rfl) rfl rfl ?_; refine XO.guardF rfl rfl (rfl) rfl rfl ?_; refine XO.guardF rfl rfl (rfl) rfl rfl ?_; refine XO.pickT rfl (rfl) rfl rfl ?_; refine XO.move rfl rfl ?_; refine XO.guardF rfl rfl (rfl) rfl rfl ?_; refine XO.guardF rfl rfl (rfl) rfl rfl ?_; refine XO.guardF rfl rfl (rfl) rfl rfl ?_; refine XO.guardF rfl rfl (rfl) rfl rfl ?_; refine XO.pickT rfl (rfl) rfl rfl ?_; refine XO.nil ?_; refine XC.seq2 ?_; refine XC.condT rfl (rfl) ?_; refine XC.seq ?_; refine XC.region ?_; refine XO.assign rfl rfl ?_; refine XO.nil ?_; refine XC.seq2 ?_; refine XC.ret ?_; refine seqX_ret ?_; refine ⟨rfl, _, [], rfl, (by repeat (first | exact List.Sublist.refl _ | apply List.Sublist.cons)), RetR.mk ?_⟩
     first | exact congrArg Value.bool (decide_eq_false (fun h => by unfold rightW at h; omega)).symm | exact congrArg Value.bool (decide_eq_false (fun h => absurd (h.2.2 _ (List.mem_of_getElem? hx48)) (by assumption))).symm | exact congrArg Value.bool (decide_eq_true (⟨by omega, by omega, fun r hr => Decidable.not_not.1 (hno r hr)⟩)).symm
   ·have g3p := of_decide_eq_true g3
    refine XO.guardF rfl rfl (g3) rfl rfl ?_; refine XO.guardF rfl rfl (g3) rfl rfl ?_; refine XO.guardF rfl rfl (g3) rfl rfl ?_; refine XO.guardF rfl rfl (g3) rfl rfl ?_; refine XO.pickT rfl (g3) rfl rfl ?_; refine XO.move rfl rfl ?_; refine XO.guardF rfl rfl (rfl) rfl rfl ?_; refine XO.guardF rfl rfl (rfl) rfl rfl ?_; refine XO.guardF rfl rfl (rfl) rfl rfl ?_; refine XO.pickT rfl (rfl) rfl rfl ?_; refine XO.move rfl rfl ?_; refine XO.guardF rfl rfl (rfl) rfl rfl ?_; refine XO.guardF rfl rfl (rfl) rfl rfl ?_; refine XO.guardF rfl rfl (rfl) rfl rfl ?_; refine XO.guardF rfl rfl (rfl) rfl rfl ?_; refine XO.guardF rfl rfl (rfl) rfl rfl ?_; refine XO.pickT rfl (rfl) rfl rfl ?_; refine XO.move rfl rfl ?_; refine XO.guardF rfl rfl (rfl) rfl rfl ?_; refine XO.guardF rfl rfl (rfl) rfl rfl ?_; refine XO.guardF rfl rfl (rfl) rfl rfl ?_; refine XO.guardF rfl rfl (rfl) rfl rfl ?_; refine XO.pickT rfl (rfl) rfl rfl ?_; refine XO.nil ?_; refine XC.seq2 ?_; refine XC.condT rfl (rfl) ?_; refine XC.seq ?_; refine XC.region ?_; refine XO.assign rfl rfl ?_; refine XO.nil ?_; refine XC.seq2 ?_; refine XC.ret ?_; refine seqX_ret ?_; refine ⟨rfl, _, [], rfl, (by repeat (first | exact List.Sublist.refl _ | apply List.Sublist.cons)), RetR.mk ?_⟩
    first | exact congrArg Value.bool (decide_eq_false (fun h => by unfold rightW at h; omega)).symm | exact congrArg Value.bool (decide_eq_false (fun h => absurd (h.2.2 _ (List.mem_of_getElem? hx48)) (by assumption))).symm | exact congrArg Value.bool (decide_eq_true (⟨by omega, by omega, fun r hr => Decidable.not_not.1 (hno r hr)⟩)).symm
  ·have g2p := of_decide_eq_true g2
   refine XO.guardF rfl rfl (g2) rfl rfl ?_; refine XO.guardF rfl rfl (g2) rfl rfl ?_; refine XO.pickT rfl (g2) rfl rfl ?_; refine XO.move rfl rfl ?_; refine XO.guardF rfl rfl (rfl) rfl rfl ?_; refine XO.guardF rfl rfl (rfl) rfl rfl ?_; refine XO.guardF rfl rfl (rfl) rfl rfl ?_; refine XO.guardF rfl rfl (rfl) rfl rfl ?_; refine XO.guardF rfl rfl (rfl) rfl rfl ?_; refine XO.pickT rfl (rfl) rfl rfl ?_; refine XO.move rfl rfl ?_; refine XO.guardF rfl rfl (rfl) rfl rfl ?_; refine XO.guardF rfl rfl (rfl) rfl rfl ?_; refine XO.guardF rfl rfl (rfl) rfl rfl ?_; refine XO.pickT rfl (rfl) rfl rfl ?_; refine XO.move rfl rfl ?_; refine XO.guardF rfl rfl (rfl) rfl rfl ?_; refine XO.guardF rfl rfl (rfl) rfl rfl ?_; refine XO.guardF rfl rfl (rfl) rfl rfl ?_; refine XO.guardF rfl rfl (rfl) rfl rfl ?_; refine XO.guardF rfl rfl (rfl) rfl rfl ?_; refine XO.pickT rfl (rfl) rfl rfl ?_; refine XO.move rfl rfl ?_; refine XO.guardF rfl rfl (rfl) rfl rfl ?_; refine XO.guardF rfl rfl (rfl) rfl rfl ?_; refine XO.guardF rfl rfl (rfl) rfl rfl ?_; refine XO.guardF rfl rfl (rfl) rfl rfl ?_; refine XO.pickT rfl (rfl) rfl rfl ?_; refine XO.nil ?_; refine XC.seq2 ?_; refine XC.condT rfl (rfl) ?_; refine XC.seq ?_; refine XC.region ?_; refine XO.assign rfl rfl ?_; refine XO.nil ?_; refine XC.seq2 ?_; refine XC.ret ?_; refine seqX_ret ?_; refine ⟨rfl, _, [], rfl, (by repeat (first | exact List.Sublist.refl _ | apply List.Sublist.cons)), RetR.mk ?_⟩
   first | exact congrArg Value.bool (decide_eq_false (fun h => by unfold rightW at h; omega)).symm | exact congrArg Value.bool (decide_eq_false (fun h => absurd (h.2.2 _ (List.mem_of_getElem? hx48)) (by assumption))).symm | exact congrArg Value.bool (decide_eq_true (⟨by omega, by omega, fun r hr => Decidable.not_not.1 (hno r hr)⟩)).symm
 ·have g1p := of_decide_eq_true g1
  refine XO.guardF rfl rfl (g1) rfl rfl ?_; refine XO.guardF rfl rfl (g1) rfl rfl ?_; refine XO.pickT rfl (g1) rfl rfl ?_; refine XO.move rfl rfl ?_; refine XO.guardF rfl rfl (rfl) rfl rfl ?_; refine XO.guardF rfl rfl (rfl) rfl rfl ?_; refine XO.guardF rfl rfl (rfl) rfl rfl ?_; refine XO.pickT rfl (rfl) rfl rfl ?_; refine XO.move rfl rfl ?_; refine XO.guardF rfl rfl (rfl) rfl rfl ?_; refine XO.guardF rfl rfl (rfl) rfl rfl ?_; refine XO.guardF rfl rfl (rfl) rfl rfl ?_; refine XO.guardF rfl rfl (rfl) rfl rfl ?_; refine XO.guardF rfl rfl (rfl) rfl rfl ?_; refine XO.pickT rfl (rfl) rfl rfl ?_; refine XO.move rfl rfl ?_; refine XO.guardF rfl rfl (rfl) rfl rfl ?_; refine XO.guardF rfl rfl (rfl) rfl rfl ?_; refine XO.guardF rfl rfl (rfl) rfl rfl ?_; refine XO.pickT rfl (rfl) rfl rfl ?_; refine XO.move rfl rfl ?_; refine XO.guardF rfl rfl (rfl) rfl rfl ?_; refine XO.guardF rfl rfl (rfl) rfl rfl ?_; refine XO.guardF rfl rfl (rfl) rfl rfl ?_; refine XO.guardF rfl rfl (rfl) rfl rfl ?_; refine XO.guardF rfl rfl (rfl) rfl rfl ?_; refine XO.pickT rfl (rfl) rfl rfl ?_; refine XO.move rfl rfl ?_; refine XO.guardF rfl rfl (rfl) rfl rfl ?_; refine XO.guardF rfl rfl (rfl) rfl rfl ?_; refine XO.guardF rfl rfl (rfl) rfl rfl ?_; refine XO.guardF rfl rfl (rfl) rfl rfl ?_; refine XO.pickT rfl (rfl) rfl rfl ?_; refine XO.nil ?_; refine XC.seq2 ?_; refine XC.condT rfl (rfl) ?_; refine XC.seq ?_; refine XC.region ?_; refine XO.assign rfl rfl ?_; refine XO.nil ?_; refine XC.seq2 ?_; refine XC.ret ?_; refine seqX_ret ?_; refine ⟨rfl, _, [], rfl, (by repeat (first | exact List.Sublist.refl _ | apply List.Sublist.cons)), RetR.mk ?_⟩
  first | exact congrArg Value.bool (decide_eq_false (fun h => by unfold rightW at h; omega)).symm | exact congrArg Value.bool (decide_eq_false (fun h => absurd (h.2.2 _ (List.mem_of_getElem? hx48)) (by assumption))).symm | exact congrArg Value.bool (decide_eq_true (⟨by omega, by omega, fun r hr => Decidable.not_not.1 (hno r hr)⟩)).symm

theorem rright_fn (w : Wi) (aB : Option Addr) (cB : Nat) (H : Hp) (hB : SlR tbR H aB cB w.B) (hBl : w.B.length < 9223372036854775808) : FnC Try.prog 26 #[.agg ⟨[.int .i64 w.J, .int .i64 w.S, .int .i64 w.N, .slice aB w.B.length cB]⟩] H [] (RetR (fun v _ _ => v = .bool (decide (rightW w)))) := by
 refine FnC.intro (args := [.agg ⟨[.int .i64 w.J, .int .i64 w.S, .int .i64 w.N, .slice aB w.B.length cB]⟩]) Try.func26 rfl rfl Try.ntmps26 rfl rfl rfl fun G rest => ?_
 refine XC.seq ?_; refine XC.region ?_; refine XO.box rfl rfl rfl (fun b1 => ?_); refine XO.assign rfl rfl ?_; refine XO.nil ?_; refine XC.seq2 ?_; refine XC.seq ?_; refine XC.seq ?_; refine XC.region ?_; refine XO.fieldAddr rfl fa_24_0 rfl ?_; refine XO.loadO 0 rfl rfl ty_3 rfl rfl rfl ?_; refine XO.lss rfl rfl rfl ?_; refine XO.move rfl rfl ?_; refine XO.guardC rfl rfl rfl rfl (fun g1 => ?_) (fun g1 => ?_)
 ·have g1p := of_decide_eq_false g1
  refine XO.fieldAddr rfl fa_24_0 rfl ?_; refine XO.guardT rfl rfl (g1) rfl ?_; refine XO.loadO 0 rfl rfl ty_3 rfl rfl rfl ?_; refine XO.guardT rfl rfl (g1) rfl ?_; refine XO.gtr rfl rfl rfl ?_; refine XO.pickF rfl (g1) rfl rfl ?_; refine XO.move rfl rfl ?_; refine XO.guardC rfl rfl rfl rfl (fun g2 => ?_) (fun g2 => ?_)
  ·have g2p := of_decide_eq_false g2
   refine XO.fieldAddr rfl fa_24_1 rfl ?_; refine XO.guardT rfl rfl (g2) rfl ?_; refine XO.loadO 0 rfl rfl ty_3 rfl rfl rfl ?_; refine XO.guardT rfl rfl (g2) rfl ?_; refine XO.lss rfl rfl rfl ?_; refine XO.pickF rfl (g2) rfl rfl ?_; refine XO.move rfl rfl ?_; refine XO.guardC rfl rfl rfl rfl (fun g3 => ?_) (fun g3 => ?_)
   ·have g3p := of_decide_eq_false g3
    refine XO.fieldAddr rfl fa_24_1 rfl ?_; refine XO.guardT rfl rfl (g3) rfl ?_; refine XO.loadO 0 rfl rfl ty_3 rfl rfl rfl ?_; refine XO.guardT rfl rfl (g3) rfl ?_; refine XO.fieldAddr rfl fa_24_0 rfl ?_; refine XO.guardT rfl rfl (g3) rfl ?_; refine XO.loadO 0 rfl rfl ty_3 rfl rfl rfl ?_; refine XO.guardT rfl rfl (g3) rfl ?_; refine XO.gtr rfl rfl rfl ?_; refine XO.pickF rfl (g3) rfl rfl ?_; refine XO.move rfl rfl ?_; refine XO.guardC rfl rfl rfl rfl (fun g4 => ?_) (fun g4 => ?_)
    ·have g4p := of_decide_eq_false g4
     refine XO.fieldAddr rfl fa_24_2 rfl ?_; refine XO.guardT rfl rfl (g4) rfl ?_; refine XO.loadO 0 rfl rfl ty_3 rfl rfl rfl ?_; refine XO.guardT rfl rfl (g4) rfl ?_; refine XO.lss rfl rfl rfl ?_; refine XO.pickF rfl (g4) rfl rfl ?_; refine XO.move rfl rfl ?_; refine XO.guardC rfl rfl rfl rfl (fun g5 => ?_) (fun g5 => ?_)
     ·have g5p := of_decide_eq_false g5
      refine XO.fieldAddr rfl fa_24_2 rfl ?_; refine XO.guardT rfl rfl (g5) rfl ?_; refine XO.loadO 0 rfl rfl ty_3 rfl rfl rfl ?_; refine XO.guardT rfl rfl (g5) rfl ?_; refine XO.fieldAddr rfl fa_24_1 rfl ?_; refine XO.guardT rfl rfl (g5) rfl ?_; refine XO.loadO 0 rfl rfl ty_3 rfl rfl rfl ?_; refine XO.guardT rfl rfl (g5) rfl ?_; refine XO.gtr rfl rfl rfl ?_; refine XO.pickF rfl (g5) rfl rfl ?_; refine XO.move rfl rfl ?_; refine XO.guardC rfl rfl rfl rfl (fun g6 => ?_) (fun g6 => ?_)
      ·have g6p := of_decide_eq_false g6
       refine XO.fieldAddr rfl fa_24_3 rfl ?_; refine XO.guardT rfl rfl (g6) rfl ?_; refine XO.loadO 0 rfl rfl ty_22 rfl rfl rfl ?_; refine XO.guardT rfl rfl (g6) rfl ?_; refine XO.lenS (ts := #[]) rfl Try.underlying22 rfl ?_; refine XO.guardT rfl rfl (g6) rfl ?_; refine XO.gtr rfl rfl rfl ?_; refine XO.pickF rfl (g6) rfl rfl ?_; refine XO.nil ?_; refine XC.seq2 ?_; refine XC.cond rfl (fun c0_7 => ?_) (fun c0_7 => ?_)
       ·refine XC.seq ?_; refine XC.region ?_; refine XO.assign rfl rfl ?_; refine XO.nil ?_; refine XC.seq2 ?_; refine XC.ret ?_; refine seqX_ret ?_; refine ⟨rfl, _, [], rfl, (by repeat (first | exact List.Sublist.refl _ | apply List.Sublist.cons)), RetR.mk ?_⟩
        first | exact congrArg Value.bool (decide_eq_false (fun h => by unfold rightW at h; omega)).symm | exact congrArg Value.bool (decide_eq_false (fun h => absurd (h.2.2 _ (List.mem_of_getElem? hxX)) (by assumption))).symm | exact congrArg Value.bool (decide_eq_true (⟨by omega, by omega, fun r hr => Decidable.not_not.1 (hno r hr)⟩)).symm
       ·refine XC.skip ?_; refine XC.seq2 ?_; refine XC.seq ?_; refine XC.seq ?_; refine XC.region ?_; refine XO.assign rfl rfl ?_; refine XO.nil ?_; refine XC.seq2 ?_; refine XC.block ?_; refine XC.keep [3, 1] rfl ?_; refine XC.loop (base := [(1, _)]) (fun ζ : Nat => [(3, .int .i64 (ζ : Nat))]) (fun ζ Hl own => ζ ≤ w.B.length ∧ (b1, .cells 24 [.int .i64 w.J, .int .i64 w.S, .int .i64 w.N, .slice aB w.B.length cB]) :: rest = own ∧ (∀ r ∈ w.B.take ζ, ¬ ((r.length : Int) ≠ w.J))) (fun ζ => w.B.length - ζ) 0 (prov_cons (rfl) (prov_cons (rfl) prov_nil)) (by repeat (first | exact List.Sublist.refl _ | apply List.Sublist.cons_cons | apply List.Sublist.cons)) ⟨Nat.zero_le _, rfl, by simp⟩ ?_; rintro k Hl0 _ hle0 ⟨hkk, rfl, hno⟩; replace hB := hB.mono hle0
        try dsimp only at ⊢
        refine XC.seq ?_; refine XC.seq ?_; refine XC.region ?_; refine XO.move rfl rfl ?_; refine XO.fieldAddr rfl fa_24_3 rfl ?_; refine XO.loadO 0 rfl rfl ty_22 rfl rfl rfl ?_; refine XO.lenS (ts := #[]) rfl Try.underlying22 rfl ?_; refine XO.lss rfl rfl rfl ?_; refine XO.nil ?_; refine XC.seq2 ?_; refine XC.cond rfl (fun c1_8 => ?_) (fun c1_8 => ?_)
        ·refine XC.skip ?_; refine XC.seq2 ?_; refine XC.seq ?_; refine XC.block ?_; refine XC.seq ?_; refine XC.keep [1, 3] rfl ?_; obtain ⟨bEX, oEX, rfl⟩ := hB.addr (by omega); obtain ⟨_, xX, hxX, ⟨axX, cxX, rfl, hdX⟩, hpX⟩ := hB.elem (k) (by omega)
         apply XC.draw 8 [eqF _, eqF _, eqF _, eqF _, eqF _, eqF _, eqF _, eqF _] follows (by kernel_rfl) (by kernel_rfl) ⟨eqF_mono _, eqF_mono _, eqF_mono _, eqF_mono _, eqF_mono _, eqF_mono _, eqF_mono _, eqF_mono _, trivial⟩ ?steps9 ?tail9
         case steps9 =>
          refine stepsK_cons rfl ?_ ?_
          ·intro X
           refine withPreds_nil rfl ?_; refine XO.fieldAddr rfl fa_24_3 rfl ?_; refine XO.nil ?_
           exact stepQ_ok rfl (rfl)
          refine stepsK_cons rfl ?_ ?_
          ·intro X
           refine withPreds_cons rfl rfl ?_; rintro _ rfl; refine withPreds_nil rfl ?_; refine XO.loadO 0 rfl rfl ty_22 rfl rfl rfl ?_; refine XO.nil ?_
           exact stepQ_ok rfl (rfl)
          refine stepsK_cons rfl ?_ ?_
          ·intro X
           refine withPreds_nil rfl ?_; refine XO.move rfl rfl ?_; refine XO.nil ?_
           exact stepQ_ok rfl (rfl)
          refine stepsK_cons rfl ?_ ?_
          ·intro X
           refine withPreds_cons rfl rfl ?_; rintro _ rfl; refine withPreds_cons rfl rfl ?_; rintro _ rfl; refine withPreds_nil rfl ?_; refine XO.indexE rfl rfl Try.underlying22 ty_68 (by omega) (by omega) rfl ?_; refine XO.nil ?_
           exact stepQ_ok rfl (rfl)
          refine stepsK_cons rfl ?_ ?_
          ·intro X
           refine withPreds_cons rfl rfl ?_; rintro _ rfl; refine withPreds_nil rfl ?_; refine XO.loadH rfl (by assumption) ty_68 rfl rfl rfl ?_; refine XO.nil ?_
           exact stepQ_ok rfl (rfl)
          refine stepsK_cons rfl ?_ ?_
          ·intro X
           refine withPreds_cons rfl rfl ?_; rintro _ rfl; refine withPreds_nil rfl ?_; refine XO.lenS (ts := #[]) rfl Try.underlying68 rfl ?_; refine XO.nil ?_
           exact stepQ_ok rfl (rfl)
          refine stepsK_cons rfl ?_ ?_
          ·intro X
           refine withPreds_nil rfl ?_; refine XO.fieldAddr rfl fa_24_0 rfl ?_; refine XO.nil ?_
           exact stepQ_ok rfl (rfl)
          refine stepsK_cons rfl ?_ ?_
          ·intro X
           refine withPreds_cons rfl rfl ?_; rintro _ rfl; refine withPreds_nil rfl ?_; refine XO.loadO 0 rfl rfl ty_3 rfl rfl rfl ?_; refine XO.nil ?_
           exact stepQ_ok rfl (rfl)
          exact stepsD_end rfl
         case tail9 =>
          refine withPreds_cons rfl rfl ?_; rintro _ rfl; refine withPreds_cons rfl rfl ?_; rintro _ rfl; refine withPreds_cons rfl rfl ?_; rintro _ rfl; refine withPreds_cons rfl rfl ?_; rintro _ rfl; refine withPreds_cons rfl rfl ?_; rintro _ rfl; refine withPreds_cons rfl rfl ?_; rintro _ rfl; refine withPreds_cons rfl rfl ?_; rintro _ rfl; refine withPreds_cons rfl rfl ?_; rintro _ rfl; refine withPreds_nil rfl ?_; refine XO.neq rfl rfl rfl ?_; refine XO.nil ?_; refine XC.seq2 ?_; refine XC.cond rfl (fun c2_11 => ?_) (fun c2_11 => ?_)
          ·refine XC.seq ?_; refine XC.region ?_; refine XO.assign rfl rfl ?_; refine XO.nil ?_; refine XC.seq2 ?_; refine XC.ret ?_; refine blockR ?_; refine seqX_ret ?_; refine loopX_ret ?_; refine blockR ?_; refine seqX_ret ?_; refine ⟨rfl, _, [], rfl, (by repeat (first | exact List.Sublist.refl _ | apply List.Sublist.cons)), RetR.mk ?_⟩
           first | exact congrArg Value.bool (decide_eq_false (fun h => by unfold rightW at h; omega)).symm | exact congrArg Value.bool (decide_eq_false (fun h => absurd (h.2.2 _ (List.mem_of_getElem? hxX)) (by assumption))).symm | exact congrArg Value.bool (decide_eq_true (⟨by omega, by omega, fun r hr => Decidable.not_not.1 (hno r hr)⟩)).symm
          ·refine XC.skip ?_; refine blockN ?_; refine XC.seq2 ?_; refine XC.region ?_; refine XO.move rfl rfl ?_; refine XO.add rfl rfl (wrap_i64 (by omega) (by omega)) rfl ?_; refine XO.assign rfl rfl ?_; refine XO.nil ?_; refine loop_next (k + 1) (by show w.B.length - (k + 1) < w.B.length - k; omega) (prov_cons (rfl) (prov_cons (rfl) prov_nil)) (⟨by show k + 1 ≤ w.B.length; omega, rfl, all_snoc hno hxX (by omega)⟩) (by repeat (first | exact List.Sublist.refl _ | apply List.Sublist.cons_cons | apply List.Sublist.cons)) (hle0)
        ·obtain rfl : k = w.B.length := by omega
         rw [List.take_length] at hno
         refine XC.exit ?_; refine seqX_exit ?_; refine loopX_exit ?_; refine blockHit rfl ?_; refine XC.seq2 ?_; refine XC.seq ?_; refine XC.region ?_; refine XO.assign rfl rfl ?_; refine XO.nil ?_; refine XC.seq2 ?_; refine XC.ret ?_; refine ⟨rfl, _, [], rfl, (by repeat (first | exact List.Sublist.refl _ | apply List.Sublist.cons)), RetR.mk ?_⟩
         first | exact congrArg Value.bool (decide_eq_false (fun h => by unfold rightW at h; omega)).symm | exact congrArg Value.bool (decide_eq_false (fun h => absurd (h.2.2 _ (List.mem_of_getElem? hxX)) (by assumption))).symm | exact congrArg Value.bool (decide_eq_true (⟨by omega, by omega, fun r hr => Decidable.not_not.1 (hno r hr)⟩)).symm
      ·have g6p := of_decide_eq_true g6
       refine XO.guardF rfl rfl (g6) rfl rfl ?_; refine XO.guardF rfl rfl (g6) rfl rfl ?_; refine XO.guardF rfl rfl (g6) rfl rfl ?_; refine XO.pickT rfl (g6) rfl rfl ?_; refine XO.nil ?_; refine XC.seq2 ?_; refine XC.condT rfl (rfl) ?_; refine XC.seq ?_; refine XC.region ?_; refine XO.assign rfl rfl ?_; refine XO.nil ?_; refine XC.seq2 ?_; refine XC.ret ?_; refine seqX_ret ?_; refine ⟨rfl, _, [], rfl, (by repeat (first | exact List.Sublist.refl _ | apply List.Sublist.cons)), RetR.mk ?_⟩
       first | exact congrArg Value.bool (decide_eq_false (fun h => by unfold rightW at h; omega)).symm | exact congrArg Value.bool (decide_eq_false (fun h => absurd (h.2.2 _ (List.mem_of_getElem? hxX)) (by assumption))).symm | exact congrArg Value.bool (decide_eq_true (⟨by omega, by omega, fun r hr => Decidable.not_not.1 (hno r hr)⟩)).symm
     ·have g5p := of_decide_eq_true g5
      refine XO.guardF rfl rfl (g5) rfl rfl ?_; refine XO.guardF rfl rfl (g5) rfl rfl ?_; refine XO.guardF rfl rfl (g5) rfl rfl ?_; refine XO.guardF rfl rfl (g5) rfl rfl ?_; refine XO.pickT rfl (g5) rfl rfl ?_; refine XO.move rfl rfl ?_; refine XO.guardF rfl rfl (rfl) rfl rfl ?_; refine XO.guardF rfl rfl (rfl) rfl rfl ?_; refine XO.guardF rfl rfl (rfl) rfl rfl ?_; refine XO.guardF rfl rfl (rfl) rfl rfl ?_; refine XO.pickT rfl (rfl) rfl rfl ?_; refine XO.nil ?_; refine XC.seq2 ?_; refine XC.condT rfl (rfl) ?_; refine XC.seq ?_; refine XC.region ?_; refine XO.assign rfl rfl ?_; refine XO.nil ?_; refine XC.seq2 ?_; refine XC.ret ?_; refine seqX_ret ?_; refine ⟨rfl, _, [], rfl, (by repeat (first | exact List.Sublist.refl _ | apply List.Sublist.cons)), RetR.mk ?_⟩
      first | exact congrArg Value.bool (decide_eq_false (fun h => by unfold rightW at h; omega)).symm | exact congrArg Value.bool (decide_eq_false (fun h => absurd (h.2.2 _ (List.mem_of_getElem? hxX)) (by assumption))).symm | exact congrArg Value.bool (decide_eq_true (⟨by omega, by omega, fun r hr => Decidable.not_not.1 (hno r hr)⟩)).symm
    ·have g4p := of_decide_eq_true g4
     refine XO.guardF rfl rfl (g4) rfl rfl ?_; refine XO.guardF rfl rfl (g4) rfl rfl ?_; refine XO.pickT rfl (g4) rfl rfl ?_; refine XO.move rfl rfl ?_; refine XO.guardF rfl rfl (rfl) rfl rfl ?_; refine XO.guardF rfl rfl (rfl) rfl rfl ?_; refine XO.guardF rfl rfl (rfl) rfl rfl ?_; refine XO.guardF rfl rfl (rfl) rfl rfl ?_; refine XO.guardF rfl rfl (rfl) rfl rfl ?_; refine XO.pickT rfl (rfl) rfl rfl ?_; refine XO.move rfl rfl ?_; refine XO.guardF rfl rfl (rfl) rfl rfl ?_; refine XO.guardF rfl rfl (rfl) rfl rfl ?_; refine XO.guardF rfl rfl (rfl) rfl rfl ?_; refine XO.guardF rfl rfl (rfl) rfl rfl ?_; refine XO.pickT rfl (rfl) rfl rfl ?_; refine XO.nil ?_; refine XC.seq2 ?_; refine XC.condT rfl (rfl) ?_; refine XC.seq ?_; refine XC.region ?_; refine XO.assign rfl rfl ?_; refine XO.nil ?_; refine XC.seq2 ?_; refine XC.ret ?_; refine seqX_ret ?_; refine ⟨rfl, _, [], rfl, (by repeat (first | exact List.Sublist.refl _ | apply List.Sublist.cons)), RetR.mk ?_⟩
     first | exact congrArg Value.bool (decide_eq_false (fun h => by unfold rightW at h; omega)).symm | exact congrArg Value.bool (decide_eq_false (fun h => absurd (h.2.2 _ (List.mem_of_getElem? hxX)) (by assumption))).symm | exact congrArg Value.bool (decide_eq_true (⟨by omega, by omega, fun r hr => Decidable.not_not.1 (hno r hr)⟩)).symm
   ·have g3p := of_decide_eq_true g3
    refine XO.guardF rfl rfl (g3) rfl rfl ?_; refine XO.guardF rfl rfl (g3) rfl rfl ?_; refine XO.guardF rfl rfl (g3) rfl rfl ?_; refine XO.guardF rfl rfl (g3) rfl rfl ?_; refine XO.pickT rfl (g3) rfl rfl ?_; refine XO.move rfl rfl ?_; refine XO.guardF rfl rfl (rfl) rfl rfl ?_; refine XO.guardF rfl rfl (rfl) rfl rfl ?_; refine XO.guardF rfl rfl (rfl) rfl rfl ?_; refine XO.pickT rfl (rfl) rfl rfl ?_; refine XO.move rfl rfl ?_; refine XO.guardF rfl rfl (rfl) rfl rfl ?_; refine XO.guardF rfl rfl (rfl) rfl rfl ?_; refine XO.guardF rfl rfl (rfl) rfl rfl ?_; refine XO.guardF rfl rfl (rfl) rfl rfl ?_; refine XO.guardF rfl rfl (rfl) rfl rfl ?_; refine XO.pickT rfl (rfl) rfl rfl ?_; refine XO.move rfl rfl ?_; refine XO.guardF rfl rfl (rfl) rfl rfl ?_; refine XO.guardF rfl rfl (rfl) rfl rfl ?_; refine XO.guardF rfl rfl (rfl) rfl rfl ?_; refine XO.guardF rfl rfl (rfl) rfl rfl ?_; refine XO.pickT rfl (rfl) rfl rfl ?_; refine XO.nil ?_; refine XC.seq2 ?_; refine XC.condT rfl (rfl) ?_; refine XC.seq ?_; refine XC.region ?_; refine XO.assign rfl rfl ?_; refine XO.nil ?_; refine XC.seq2 ?_; refine XC.ret ?_; refine seqX_ret ?_; refine ⟨rfl, _, [], rfl, (by repeat (first | exact List.Sublist.refl _ | apply List.Sublist.cons)), RetR.mk ?_⟩
    first | exact congrArg Value.bool (decide_eq_false (fun h => by unfold rightW at h; omega)).symm | exact congrArg Value.bool (decide_eq_false (fun h => absurd (h.2.2 _ (List.mem_of_getElem? hxX)) (by assumption))).symm | exact congrArg Value.bool (decide_eq_true (⟨by omega, by omega, fun r hr => Decidable.not_not.1 (hno r hr)⟩)).symm
  ·have g2p := of_decide_eq_true g2
   refine XO.guardF rfl rfl (g2) rfl rfl ?_; refine XO.guardF rfl rfl (g2) rfl rfl ?_; refine XO.pickT rfl (g2) rfl rfl ?_; refine XO.move rfl rfl ?_; refine XO.guardF rfl rfl (rfl) rfl rfl ?_; refine XO.guardF rfl rfl (rfl) rfl rfl ?_; refine XO.guardF rfl rfl (rfl) rfl rfl ?_; refine XO.guardF rfl rfl (rfl) rfl rfl ?_; refine XO.guardF rfl rfl (rfl) rfl rfl ?_; refine XO.pickT rfl (rfl) rfl rfl ?_; refine XO.move rfl rfl ?_; refine XO.guardF rfl rfl (rfl) rfl rfl ?_; refine XO.guardF rfl rfl (rfl) rfl rfl ?_; refine XO.guardF rfl rfl (rfl) rfl rfl ?_; refine XO.pickT rfl (rfl) rfl rfl ?_; refine XO.move rfl rfl ?_; refine XO.guardF rfl rfl (rfl) rfl rfl ?_; refine XO.guardF rfl rfl (rfl) rfl rfl ?_; refine XO.guardF rfl rfl (rfl) rfl rfl ?_; refine XO.guardF rfl rfl (rfl) rfl rfl ?_; refine XO.guardF rfl rfl (rfl) rfl rfl ?_; refine XO.pickT rfl (rfl) rfl rfl ?_; refine XO.move rfl rfl ?_; refine XO.guardF rfl rfl (rfl) rfl rfl ?_; refine XO.guardF rfl rfl (rfl) rfl rfl ?_; refine XO.guardF rfl rfl (rfl) rfl rfl ?_; refine XO.guardF rfl rfl (rfl) rfl rfl ?_; refine XO.pickT rfl (rfl) rfl rfl ?_; refine XO.nil ?_; refine XC.seq2 ?_; refine XC.condT rfl (rfl) ?_; refine XC.seq ?_; refine XC.region ?_; refine XO.assign rfl rfl ?_; refine XO.nil ?_; refine XC.seq2 ?_; refine XC.ret ?_; refine seqX_ret ?_; refine ⟨rfl, _, [], rfl, (by repeat (first | exact List.Sublist.refl _ | apply List.Sublist.cons)), RetR.mk ?_⟩
   first | exact congrArg Value.bool (decide_eq_false (fun h => by unfold rightW at h; omega)).symm | exact congrArg Value.bool (decide_eq_false (fun h => absurd (h.2.2 _ (List.mem_of_getElem? hxX)) (by assumption))).symm | exact congrArg Value.bool (decide_eq_true (⟨by omega, by omega, fun r hr => Decidable.not_not.1 (hno r hr)⟩)).symm
 ·have g1p := of_decide_eq_true g1
  refine XO.guardF rfl rfl (g1) rfl rfl ?_; refine XO.guardF rfl rfl (g1) rfl rfl ?_; refine XO.pickT rfl (g1) rfl rfl ?_; refine XO.move rfl rfl ?_; refine XO.guardF rfl rfl (rfl) rfl rfl ?_; refine XO.guardF rfl rfl (rfl) rfl rfl ?_; refine XO.guardF rfl rfl (rfl) rfl rfl ?_; refine XO.pickT rfl (rfl) rfl rfl ?_; refine XO.move rfl rfl ?_; refine XO.guardF rfl rfl (rfl) rfl rfl ?_; refine XO.guardF rfl rfl (rfl) rfl rfl ?_; refine XO.guardF rfl rfl (rfl) rfl rfl ?_; refine XO.guardF rfl rfl (rfl) rfl rfl ?_; refine XO.guardF rfl rfl (rfl) rfl rfl ?_; refine XO.pickT rfl (rfl) rfl rfl ?_; refine XO.move rfl rfl ?_; refine XO.guardF rfl rfl (rfl) rfl rfl ?_; refine XO.guardF rfl rfl (rfl) rfl rfl ?_; refine XO.guardF rfl rfl (rfl) rfl rfl ?_; refine XO.pickT rfl (rfl) rfl rfl ?_; refine XO.move rfl rfl ?_; refine XO.guardF rfl rfl (rfl) rfl rfl ?_; refine XO.guardF rfl rfl (rfl) rfl rfl ?_; refine XO.guardF rfl rfl (rfl) rfl rfl ?_; refine XO.guardF rfl rfl (rfl) rfl rfl ?_; refine XO.guardF rfl rfl (rfl) rfl rfl ?_; refine XO.pickT rfl (rfl) rfl rfl ?_; refine XO.move rfl rfl ?_; refine XO.guardF rfl rfl (rfl) rfl rfl ?_; refine XO.guardF rfl rfl (rfl) rfl rfl ?_; refine XO.guardF rfl rfl (rfl) rfl rfl ?_; refine XO.guardF rfl rfl (rfl) rfl rfl ?_; refine XO.pickT rfl (rfl) rfl rfl ?_; refine XO.nil ?_; refine XC.seq2 ?_; refine XC.condT rfl (rfl) ?_; refine XC.seq ?_; refine XC.region ?_; refine XO.assign rfl rfl ?_; refine XO.nil ?_; refine XC.seq2 ?_; refine XC.ret ?_; refine seqX_ret ?_; refine ⟨rfl, _, [], rfl, (by repeat (first | exact List.Sublist.refl _ | apply List.Sublist.cons)), RetR.mk ?_⟩
  first | exact congrArg Value.bool (decide_eq_false (fun h => by unfold rightW at h; omega)).symm | exact congrArg Value.bool (decide_eq_false (fun h => absurd (h.2.2 _ (List.mem_of_getElem? hxX)) (by assumption))).symm | exact congrArg Value.bool (decide_eq_true (⟨by omega, by omega, fun r hr => Decidable.not_not.1 (hno r hr)⟩)).symm

theorem fits_fn (w : Wi) (aB : Option Addr) (cB : Nat) (r : List Bool) (ar : Option Addr) (cr : Nat) (a : Option Addr) (c : Nat) (l : List Int) (H : Hp) (hs : SlR (intR .i64) H a c l) (hl : l.length < 9223372036854775808) (hB : SlR boolR H ar cr r) (hr : (r.length : Int) = w.J) : FnC Try.prog 53 #[.agg ⟨[.int .i64 w.J, .int .i64 w.S, .int .i64 w.N, .slice aB w.B.length cB]⟩, .slice ar r.length cr, .slice a l.length c] H [] (RetR (fun v _ _ => v = .bool (decide (fitW w r l)))) := by
 refine FnC.intro (args := [.agg ⟨[.int .i64 w.J, .int .i64 w.S, .int .i64 w.N, .slice aB w.B.length cB]⟩, .slice ar r.length cr, .slice a l.length c]) Try.func53 rfl rfl Try.ntmps53 rfl rfl rfl fun G rest => ?_
 refine XC.seq ?_; refine XC.region ?_; refine XO.box rfl rfl rfl (fun b3 => ?_); refine XO.assign rfl rfl ?_; refine XO.nil ?_; refine XC.seq2 ?_; refine XC.seq ?_; refine XC.region ?_; refine XO.assign rfl rfl ?_; refine XO.nil ?_; refine XC.seq2 ?_; refine XC.seq ?_; refine XC.seq ?_; refine XC.region ?_; refine XO.move rfl rfl ?_; refine XO.lenS (ts := #[]) rfl Try.underlying26 rfl ?_; refine XO.move rfl rfl ?_; refine XO.nil ?_; refine XC.seq2 ?_; refine XC.block ?_; refine XC.keep [7, 12, 1, 2, 3, 10, 11] rfl ?_; refine XC.loop (base := [(1, _), (2, _), (3, _), (10, _), (11, _)]) (fun ζ : Nat × (Int) => [(7, .int .i64 ζ.2), (12, .int .i64 (ζ.1 : Nat))]) (fun ζ Hl own => ζ.1 ≤ l.length ∧ (b3, .cells 24 [.int .i64 w.J, .int .i64 w.S, .int .i64 w.N, .slice aB w.B.length cB]) :: rest = own ∧ (fitB w.J r (-1) l = fitB w.J r ζ.2 (l.drop (ζ.1))) ∧ (-1 ≤ ζ.2)) (fun ζ => l.length - ζ.1) (0, -1) (prov_cons (rfl) (prov_cons (rfl) (prov_cons (rfl) (prov_cons (rfl) (prov_cons (rfl) (prov_cons (rfl) (prov_cons (rfl) prov_nil))))))) (by repeat (first | exact List.Sublist.refl _ | apply List.Sublist.cons_cons | apply List.Sublist.cons)) ⟨Nat.zero_le _, rfl, rfl, by decide⟩ ?_; rintro ⟨k, last⟩ Hl0 _ hle0 ⟨hkk, rfl, hF, hla⟩; replace hs := hs.mono hle0; replace hB := hB.mono hle0
 try dsimp only at hkk hF hla ⊢
 refine XC.seq ?_; refine XC.region ?_; refine XO.lss rfl rfl rfl ?_; refine XO.nil ?_; refine XC.seq2 ?_; refine XC.seq ?_; refine XC.cond rfl (fun c0_1 => ?_) (fun c0_1 => ?_)
 ·refine XC.skip ?_; refine XC.seq2 ?_; refine XC.seq ?_; refine XC.block ?_; refine XC.seq ?_; refine XC.region ?_; refine XO.indexN rfl hs rfl Try.underlying26 ty_3 (by omega) rfl ?_; rintro eb14 eo14 _ x14 hx14 rfl hp14; refine XO.loadH rfl (by assumption) ty_3 rfl rfl rfl ?_; refine XO.assign rfl rfl ?_; refine XO.nil ?_; refine XC.seq2 ?_; refine XC.seq ?_; refine XC.seq ?_; refine XC.region ?_; refine XO.move rfl rfl ?_; refine XO.move rfl rfl ?_; refine XO.leq rfl rfl rfl ?_; refine XO.move rfl rfl ?_; refine XO.guardC rfl rfl rfl rfl (fun g3 => ?_) (fun g3 => ?_)
  ·have g3p := of_decide_eq_false g3
   refine XO.move rfl rfl ?_; refine XO.guardT rfl rfl (g3) rfl ?_; refine XO.fieldAddr rfl fa_24_0 rfl ?_; refine XO.guardT rfl rfl (g3) rfl ?_; refine XO.loadO 0 rfl rfl ty_3 rfl rfl rfl ?_; refine XO.guardT rfl rfl (g3) rfl ?_; refine XO.geq rfl rfl rfl ?_; refine XO.pickF rfl (g3) rfl rfl ?_; refine XO.move rfl rfl ?_; refine XO.guardC rfl rfl rfl rfl (fun g4 => ?_) (fun g4 => ?_)
   ·have g4p := of_decide_eq_false g4
    obtain ⟨y14, rfl⟩ : ∃ y : Nat, x14 = y := ⟨x14.toNat, by omega⟩
    refine XO.move rfl rfl ?_; refine XO.guardT rfl rfl (g4) rfl ?_; refine XO.move rfl rfl ?_; refine XO.guardT rfl rfl (g4) rfl ?_; refine XO.indexN rfl hB rfl Try.underlying68 ty_4 (by omega) rfl ?_; rintro eb28 eo28 _ x28 hx28 rfl hp28; refine XO.guardT rfl rfl (g4) rfl ?_; refine XO.loadH rfl (by assumption) ty_4 rfl rfl rfl ?_; refine XO.pickF rfl (g4) rfl rfl ?_; refine XO.nil ?_; refine XC.seq2 ?_; refine XC.condB rfl (fun c1_6 => ?_) (fun c1_6 => ?_)
    ·refine XC.seq ?_; refine XC.region ?_; refine XO.assign rfl rfl ?_; refine XO.nil ?_; refine XC.seq2 ?_; refine XC.ret ?_; refine seqX_ret ?_; refine blockR ?_; refine seqX_ret ?_; refine loopX_ret ?_; refine blockR ?_; refine seqX_ret ?_; refine ⟨rfl, _, [], rfl, (by repeat (first | exact List.Sublist.refl _ | apply List.Sublist.cons)), RetR.mk ?_⟩
     first | exact congrArg Value.bool (decide_eq_false (fun h => by have h2 := fitB_n hF hx14 (fun h3 => by first | omega | simp_all); rw [h.2] at h2; cases h2)).symm | exact congrArg Value.bool (by rw [decide_eq_decide]; exact ⟨fun h => ⟨h, hF⟩, fun h => h.1⟩)
    ·refine XC.skip ?_; refine XC.seq2 ?_; refine XC.region ?_; refine XO.move rfl rfl ?_; refine XO.assign rfl rfl ?_; refine XO.nil ?_; refine blockN ?_; refine XC.seq2 ?_; refine XC.region ?_; refine XO.add rfl rfl (wrap_i64 (by omega) (by omega)) rfl ?_; refine XO.move rfl rfl ?_; refine XO.nil ?_; refine loop_next ((k + 1, ((y14 : Nat) : Int))) (by show l.length - (k + 1) < l.length - k; omega) (prov_cons (rfl) (prov_cons (rfl) (prov_cons (rfl) (prov_cons (rfl) (prov_cons (rfl) (prov_cons (rfl) (prov_cons (rfl) prov_nil))))))) (⟨by show k + 1 ≤ l.length; omega, rfl, fitB_y hF hx14 (by omega) (by omega) hx28 (by assumption), by omega⟩) (by repeat (first | exact List.Sublist.refl _ | apply List.Sublist.cons_cons | apply List.Sublist.cons)) (hle0)
   ·have g4p := of_decide_eq_true g4
    refine XO.guardF rfl rfl (g4) rfl rfl ?_; refine XO.guardF rfl rfl (g4) rfl rfl ?_; refine XO.guardF rfl rfl (g4) rfl rfl ?_; refine XO.pickT rfl (g4) rfl rfl ?_; refine XO.nil ?_; refine XC.seq2 ?_; refine XC.condT rfl (rfl) ?_; refine XC.seq ?_; refine XC.region ?_; refine XO.assign rfl rfl ?_; refine XO.nil ?_; refine XC.seq2 ?_; refine XC.ret ?_; refine seqX_ret ?_; refine blockR ?_; refine seqX_ret ?_; refine loopX_ret ?_; refine blockR ?_; refine seqX_ret ?_; refine ⟨rfl, _, [], rfl, (by repeat (first | exact List.Sublist.refl _ | apply List.Sublist.cons)), RetR.mk ?_⟩
    first | exact congrArg Value.bool (decide_eq_false (fun h => by have h2 := fitB_n hF hx14 (fun h3 => by first | omega | simp_all); rw [h.2] at h2; cases h2)).symm | exact congrArg Value.bool (by rw [decide_eq_decide]; exact ⟨fun h => ⟨h, hF⟩, fun h => h.1⟩)
  ·have g3p := of_decide_eq_true g3
   refine XO.guardF rfl rfl (g3) rfl rfl ?_; refine XO.guardF rfl rfl (g3) rfl rfl ?_; refine XO.guardF rfl rfl (g3) rfl rfl ?_; refine XO.pickT rfl (g3) rfl rfl ?_; refine XO.move rfl rfl ?_; refine XO.guardF rfl rfl (rfl) rfl rfl ?_; refine XO.guardF rfl rfl (rfl) rfl rfl ?_; refine XO.guardF rfl rfl (rfl) rfl rfl ?_; refine XO.guardF rfl rfl (rfl) rfl rfl ?_; refine XO.pickT rfl (rfl) rfl rfl ?_; refine XO.nil ?_; refine XC.seq2 ?_; refine XC.condT rfl (rfl) ?_; refine XC.seq ?_; refine XC.region ?_; refine XO.assign rfl rfl ?_; refine XO.nil ?_; refine XC.seq2 ?_; refine XC.ret ?_; refine seqX_ret ?_; refine blockR ?_; refine seqX_ret ?_; refine loopX_ret ?_; refine blockR ?_; refine seqX_ret ?_; refine ⟨rfl, _, [], rfl, (by repeat (first | exact List.Sublist.refl _ | apply List.Sublist.cons)), RetR.mk ?_⟩
   first | exact congrArg Value.bool (decide_eq_false (fun h => by have h2 := fitB_n hF hx14 (fun h3 => by first | omega | simp_all); rw [h.2] at h2; cases h2)).symm | exact congrArg Value.bool (by rw [decide_eq_decide]; exact ⟨fun h => ⟨h, hF⟩, fun h => h.1⟩)
 ·obtain rfl : k = l.length := by omega
  rw [List.drop_length, fitB] at hF
  refine XC.exit ?_; refine seqX_exit ?_; refine loopX_exit ?_; refine blockHit rfl ?_; refine XC.seq2 ?_; refine XC.seq ?_; refine XC.region ?_; refine XO.move rfl rfl ?_; refine XO.lenS (ts := #[]) rfl Try.underlying26 rfl ?_; refine XO.fieldAddr rfl fa_24_1 rfl ?_; refine XO.loadO 0 rfl rfl ty_3 rfl rfl rfl ?_; refine XO.eql rfl rfl rfl ?_; refine XO.assign rfl rfl ?_; refine XO.nil ?_; refine XC.seq2 ?_; refine XC.ret ?_; refine ⟨rfl, _, [], rfl, (by repeat (first | exact List.Sublist.refl _ | apply List.Sublist.cons)), RetR.mk ?_⟩
  first | exact congrArg Value.bool (decide_eq_false (fun h => by have h2 := fitB_n hF hx14 (fun h3 => by first | omega | simp_all); rw [h.2] at h2; cases h2)).symm | exact congrArg Value.bool (by rw [decide_eq_decide]; exact ⟨fun h => ⟨h, hF⟩, fun h => h.1⟩)

end Go.Proofs
