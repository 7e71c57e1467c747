/- What happens to the links: one event, what it answers, and what holds after it. -/
import Derived.Test.YtonmnpdhpailcaaRbN
import Derived.Test.YtonmnpdhpailcaaRbO
import Derived.Test.YtonmnpdhpailcaaXLt
import Derived.Test.YtonmnpdhpailcaaProg
set_option autoImplicit false
set_option linter.unusedVariables false
set_option linter.unusedSimpArgs false
namespace Go.Proofs
open Go.XL Go.RowKit Go.ChangeShapes Go.WideShapes
structure Ev where
  K : UInt8
  A : UInt8
  F : UInt8
  T : UInt8
  D : UInt8
def evR : Rep Ev where
  sz := 5
  R := fun _ cs e => cs = [.int .u8 (e.K.toNat : Nat), .int .u8 (e.A.toNat : Nat), .int .u8 (e.F.toNat : Nat), .int .u8 (e.T.toNat : Nat), .int .u8 (e.D.toNat : Nat)]
  len := fun h => by subst h; rfl
  one := fun h => by subst h; rfl
  mono := fun _ h => h
def evI (n : Nt) (e : Ev) : Int := if 0 < n.q.length then (e.A.toNat : Int) % (n.q.length : Int) else 0
def evF (e : Ev) : Int := (e.F.toNat : Int) % 24
def evT (e : Ev) : Int := (e.T.toNat : Int) % 24
def evP (e : Ev) : Pk := ⟨evF e, evT e, [e.D]⟩
def hapN (n : Nt) (e : Ev) : Nt :=
  if e.K.toNat % 6 = 0 then (sendV n (evP e)).1 else if e.K.toNat % 6 = 1 then delN n (evI n e) else if e.K.toNat % 6 = 2 then delN n (evI n e) else if e.K.toNat % 6 = 3 then (repV n (evI n e)).1
  else if e.K.toNat % 6 = 4 then cutN n (evF e) (evT e) true else cutN n (evF e) (evT e) false
def hapP (n : Nt) (e : Ev) : Pk := if e.K.toNat % 6 = 1 then delP n (evI n e) else pk0
def hapE (n : Nt) (e : Ev) : Int :=
  if e.K.toNat % 6 = 0 then (sendV n (evP e)).2 else if e.K.toNat % 6 = 1 then askE n (evI n e) else if e.K.toNat % 6 = 2 then askE n (evI n e) else if e.K.toNat % 6 = 3 then (repV n (evI n e)).2
  else cutE n (evF e) (evT e)
theorem opens_ev : Opens Try.prog 52 evR (fun _ => True) := by
  intro H enc w base spare held fuel cs x h
  obtain ⟨xs, m, _, _, hl, hxs, hf⟩ := DataW.trod_struct Try.underlying52 h
  rw [show Try.prog.cellsOf 52 = 5 by kernel_rfl] at hl
  match cs, hl, xs, hxs with
  | [u, v, s, t, r], _, [y0, y1, y2, y3, y4], _ =>
    have h0 : DataW.trod enc Try.prog w base spare held m 5 ([u, v, s, t, r].take (Try.prog.cellsOf 5)) = some y0 := hf 0 _ rfl
    have h1 : DataW.trod enc Try.prog w base spare held m 5 ([v, s, t, r].take (Try.prog.cellsOf 5)) = some y1 := hf 1 _ rfl
    have h2 : DataW.trod enc Try.prog w base spare held m 5 ([s, t, r].take (Try.prog.cellsOf 5)) = some y2 := hf 2 _ rfl
    have h3 : DataW.trod enc Try.prog w base spare held m 5 ([t, r].take (Try.prog.cellsOf 5)) = some y3 := hf 3 _ rfl
    have h4 : DataW.trod enc Try.prog w base spare held m 5 ([r].take (Try.prog.cellsOf 5)) = some y4 := hf 4 _ rfl
    simp only [show Try.prog.cellsOf 5 = 1 by kernel_rfl] at h0 h1 h2 h3 h4
    obtain ⟨a, ha, _⟩ := opens_u8 enc w base spare held m _ _ h0
    obtain ⟨b, hb, _⟩ := opens_u8 enc w base spare held m _ _ h1
    obtain ⟨c, hc, _⟩ := opens_u8 enc w base spare held m _ _ h2
    obtain ⟨d, hd, _⟩ := opens_u8 enc w base spare held m _ _ h3
    obtain ⟨e, he, _⟩ := opens_u8 enc w base spare held m _ _ h4
    simp [u8R] at ha hb hc hd he; subst ha; subst hb; subst hc; subst hd; subst he
    exact ⟨⟨a, b, c, d, e⟩, rfl, trivial⟩
theorem opens_evs : Opens Try.prog 48 (slR evR) (fun l => l.length ≤ maxLen ∧ ∀ p ∈ l, True) := Opens.slice Try.underlying48 (by kernel_rfl) (by decide) opens_ev
/-- what holds of the links after k events: they are good, and no more wait than have happened -/
theorem evI_ok {n : Nt} {e : Ev} (h : 0 < n.q.length) : 0 ≤ evI n e ∧ evI n e < n.q.length := by
  unfold evI; rw [if_pos h]
  exact ⟨Int.emod_nonneg _ (by omega), Int.emod_lt_of_pos _ (by omega)⟩
/-- the state that is kept: sn are the packets that were sent, c the cuts -/
structure Only (n : Nt) (sn : List Pk) (c k : Nat) : Prop where
  ok : netOk n
  len : n.q.length ≤ k
  sent : ∀ x ∈ n.q, x ∈ sn
  cuts : n.ap ≠ [] → 0 < c
theorem send_inv {n : Nt} {p : Pk} (h : (sendV n p).2 = 0) : netOk n ∧ pkOk p ∧ n.q.length ≠ 4096 ∧ (sendV n p).1 = ⟨n.q ++ [p], n.ap⟩ := by
  unfold sendV at h ⊢
  split at h
  · cases h
  · rename_i h1
    have h1 := Decidable.not_not.1 h1
    rw [if_neg (fun h2 => h2 h1)]
    split at h
    · cases h
    · rename_i h2; rw [if_neg h2]; exact ⟨h1.1, h1.2, h2, rfl⟩
theorem send_bad {n : Nt} {p : Pk} (h : (sendV n p).2 ≠ 0) : (sendV n p).1 = ⟨[], []⟩ := by
  unfold sendV at h ⊢
  split
  · rfl
  · rename_i h1; rw [if_neg h1] at h
    split
    · rfl
    · rename_i h2; rw [if_neg h2] at h; exact absurd rfl h
theorem rep_inv {n : Nt} {i : Int} (h : (repV n i).2 = 0) : ∃ x ∈ n.q, repV n i = sendV n x := by
  by_cases ha : askE n i = 0
  · obtain ⟨hn, k, rfl, hk⟩ := ask_inv ha
    obtain ⟨x, hx⟩ : ∃ x, n.q[k]? = some x := ⟨_, List.getElem?_eq_getElem hk⟩
    exact ⟨x, List.mem_of_getElem? hx, (del_eq hn hx).2.2.2⟩
  · rw [repV, if_pos ha] at h; exact absurd h ha
theorem hap_bad {n : Nt} {e : Ev} (h : hapE n e ≠ 0) : hapN n e = ⟨[], []⟩ := by
  unfold hapE at h
  unfold hapN
  split
  · rename_i h0; rw [if_pos h0] at h; exact send_bad h
  · rename_i h0; rw [if_neg h0] at h
    split
    · rename_i h1; rw [if_pos h1] at h; exact if_pos h
    · rename_i h1; rw [if_neg h1] at h
      split
      · rename_i h2; rw [if_pos h2] at h; exact if_pos h
      · rename_i h2; rw [if_neg h2] at h
        split
        · rename_i h3; rw [if_pos h3] at h
          by_cases ha : askE n (evI n e) = 0
          · rw [repV, if_neg (fun h5 => h5 ha)] at h ⊢; exact send_bad h
          · rw [repV, if_pos ha]
        · rename_i h3; rw [if_neg h3] at h
          split <;> exact if_pos h
theorem del_inv {n : Nt} {i : Int} (h : askE n i = 0) : ∃ (k : Nat) (x : Pk), i = k ∧ k < n.q.length ∧ x ∈ n.q ∧ delN n i = ⟨withoutL n.q k, n.ap⟩ ∧ delP n i = (if lnk x.From x.To ∈ n.ap then pk0 else x) := by
  obtain ⟨hn, k, rfl, hk⟩ := ask_inv h
  obtain ⟨x, hx⟩ : ∃ x, n.q[k]? = some x := ⟨_, List.getElem?_eq_getElem hk⟩
  obtain ⟨_, h2, h3, _⟩ := del_eq hn hx
  exact ⟨k, x, rfl, hk, List.mem_of_getElem? hx, h3, h2⟩
theorem Only.nil : Only ⟨[], []⟩ [] 0 0 := ⟨⟨by simp, by simp, by simp, by simp⟩, by simp, by simp, by simp⟩
theorem Only.more {n : Nt} {sn : List Pk} {c k : Nat} (h : Only n sn c k) : Only n sn c (k + 1) := ⟨h.1, by have := h.2; omega, h.3, h.4⟩
/-- a packet is sent -/
theorem Only.send {n : Nt} {sn : List Pk} {c k : Nat} {e : Ev} (h : Only n sn c k) (hk : k < 60) (h0 : e.K.toNat % 6 = 0) (he : hapE n e = 0) :
    hapN n e = ⟨n.q ++ [evP e], n.ap⟩ ∧ Only (hapN n e) (sn ++ [evP e]) c (k + 1) := by
  unfold hapE at he; rw [if_pos h0] at he
  obtain ⟨h1, h2, h3, h4⟩ := send_inv he
  have hh : hapN n e = ⟨n.q ++ [evP e], n.ap⟩ := by rw [hapN, if_pos h0, h4]
  have hl := h.len
  rw [hh]
  refine ⟨rfl, net_snoc h1 h2 (by omega), by simp; omega, ?_, h.cuts⟩
  intro x hx
  rcases List.mem_append.1 hx with hx | hx
  · exact List.mem_append_left _ (h.sent x hx)
  · exact List.mem_append_right _ hx
/-- anything else happens -/
theorem Only.step {n : Nt} {sn : List Pk} {c k : Nat} {e : Ev} (h : Only n sn c k) (hk : k < 60) (h0 : e.K.toNat % 6 ≠ 0) (he : hapE n e = 0) :
    Only (hapN n e) sn (if e.K.toNat % 6 = 4 then c + 1 else c) (k + 1) := by
  have hl := h.len
  have hdel : askE n (evI n e) = 0 → Only (delN n (evI n e)) sn c (k + 1) := fun ha => by
    obtain ⟨j, x, _, hj, _, hd, _⟩ := del_inv ha
    rw [hd]
    refine ⟨net_without h.ok, ?_, fun y hy => h.sent y (without_mem hy), h.cuts⟩
    have := without_len hj
    show (withoutL n.q j).length ≤ k + 1
    omega
  unfold hapE at he
  unfold hapN
  rw [if_neg h0] at he ⊢
  split
  · rename_i h1; rw [if_pos h1] at he; rw [if_neg (by omega)]; exact hdel he
  · rename_i h1; rw [if_neg h1] at he
    split
    · rename_i h2; rw [if_pos h2] at he; rw [if_neg (by omega)]; exact hdel he
    · rename_i h2; rw [if_neg h2] at he
      split
      · rename_i h3; rw [if_pos h3] at he; rw [if_neg (by omega)]
        obtain ⟨x, hx, hr⟩ := rep_inv he
        rw [hr] at he ⊢
        obtain ⟨g1, g2, g3, g4⟩ := send_inv he
        rw [g4]
        refine ⟨net_snoc g1 g2 (by omega), by simp; omega, ?_, h.cuts⟩
        intro y hy
        rcases List.mem_append.1 hy with hy | hy
        · exact h.sent y hy
        · simp at hy; subst hy; exact h.sent y hx
      · rename_i h3; rw [if_neg h3] at he
        have hs := cutE_site he
        split
        · rename_i h4
          obtain ⟨_, hc⟩ := cutN_ok (on := true) h.ok hs
          rw [hc]
          exact ⟨cut_net h.ok, by show n.q.length ≤ k + 1; omega, h.sent, fun _ => by omega⟩
        · rename_i h4
          obtain ⟨_, hc⟩ := cutN_ok (on := false) h.ok hs
          rw [hc]
          refine ⟨cut_net h.ok, by show n.q.length ≤ k + 1; omega, h.sent, fun hne => h.cuts fun hz => hne ?_⟩
          show cutL n (lnk (evF e) (evT e)) false = []
          refine List.filter_eq_nil_iff.2 fun x hx => ?_
          unfold keepB
          split
          · simp
          · simp [hz]
/-- what is delivered was sent, or is the empty one, and then there was a cut -/
theorem Only.deliver {n : Nt} {sn : List Pk} {c k : Nat} {e : Ev} (h : Only n sn c k) (h1 : e.K.toNat % 6 = 1) (he : hapE n e = 0) :
    (hapP n e = pk0 ∧ 0 < c) ∨ hapP n e ∈ sn := by
  unfold hapE at he; rw [if_neg (by omega), if_pos h1] at he
  obtain ⟨j, x, _, hj, hx, _, hd⟩ := del_inv he
  rw [hapP, if_pos h1, hd]
  split
  · rename_i hm; exact Or.inl ⟨rfl, h.cuts (fun hz => by rw [hz] at hm; cases hm)⟩
  · exact Or.inr (h.sent x hx)
theorem hap_len (n : Nt) (e : Ev) : (hapN n e).q.length ≤ n.q.length + n.q.length + 1 ∧ (hapN n e).ap.length ≤ n.ap.length + 276 := by
  have h1 := send_len n (evP e)
  have h2 := del_len n (evI n e)
  have h3 := rep_len n (evI n e)
  have h4 := cut_len n (evF e) (evT e) true
  have h5 := cut_len n (evF e) (evT e) false
  unfold hapN
  split
  · omega
  · split
    · omega
    · split
      · omega
      · split
        · omega
        · split <;> omega
theorem hap0 {n : Nt} {e : Ev} (h : e.K.toNat % 6 = 0) : hapN n e = (sendV n (evP e)).1 ∧ hapP n e = pk0 ∧ hapE n e = (sendV n (evP e)).2 := by
  unfold hapN hapP hapE
  rw [h]
  exact ⟨rfl, rfl, rfl⟩
theorem hap1 {n : Nt} {e : Ev} (h : e.K.toNat % 6 = 1) : hapN n e = delN n (evI n e) ∧ hapP n e = delP n (evI n e) ∧ hapE n e = askE n (evI n e) := by
  unfold hapN hapP hapE
  rw [h]
  exact ⟨rfl, rfl, rfl⟩
theorem hap2 {n : Nt} {e : Ev} (h : e.K.toNat % 6 = 2) : hapN n e = delN n (evI n e) ∧ hapP n e = pk0 ∧ hapE n e = askE n (evI n e) := by
  unfold hapN hapP hapE
  rw [h]
  exact ⟨rfl, rfl, rfl⟩
theorem hap3 {n : Nt} {e : Ev} (h : e.K.toNat % 6 = 3) : hapN n e = (repV n (evI n e)).1 ∧ hapP n e = pk0 ∧ hapE n e = (repV n (evI n e)).2 := by
  unfold hapN hapP hapE
  rw [h]
  exact ⟨rfl, rfl, rfl⟩
theorem hap4 {n : Nt} {e : Ev} (h : e.K.toNat % 6 = 4) : hapN n e = cutN n (evF e) (evT e) true ∧ hapP n e = pk0 ∧ hapE n e = cutE n (evF e) (evT e) := by
  unfold hapN hapP hapE
  rw [h]
  exact ⟨rfl, rfl, rfl⟩
theorem hap5 {n : Nt} {e : Ev} (h : e.K.toNat % 6 = 5) : hapN n e = cutN n (evF e) (evT e) false ∧ hapP n e = pk0 ∧ hapE n e = cutE n (evF e) (evT e) := by
  unfold hapN hapP hapE
  rw [h]
  exact ⟨rfl, rfl, rfl⟩
/-- two blocks made in one region, then written: the links, and a packet -/
def moF (j : Nat) : EntP := fun i v p _ => (i = j → v = .pointer (some ⟨p.1, 0, none⟩) ∧ p.2 = .cells 25 [.slice none 0 0, .slice none 0 0]) ∧
  (i ≠ j → v = .pointer (some ⟨p.1, 0, none⟩) ∧ p.2 = .cells 28 [.int .i64 0, .int .i64 0, .slice none 0 0])
def mo2 (j : Nat) (n : Nt) (q : Pk) : EntP := fun i v p H => (i = j → ∃ a c b d, v = .pointer (some ⟨p.1, 0, none⟩) ∧ p.2 = .cells 25 [.slice a n.q.length c, .slice b n.ap.length d] ∧ SlR pkR H a c n.q ∧ SlR pairR H b d n.ap) ∧
  (i ≠ j → ∃ a c, v = .pointer (some ⟨p.1, 0, none⟩) ∧ p.2 = .cells 28 [.int .i64 q.From, .int .i64 q.To, .slice a q.Data.length c] ∧ SlR u8R H a c q.Data)
theorem mo2_mono (j : Nat) (n : Nt) (q : Pk) : ∀ i v p H H', Le H H' → mo2 j n q i v p H → mo2 j n q i v p H' := fun _ _ _ _ _ hle h =>
  ⟨fun e => let ⟨a, c, b, d, h1, h2, h3, h4⟩ := h.1 e; ⟨a, c, b, d, h1, h2, h3.mono hle, h4.mono hle⟩, fun e => let ⟨a, c, h1, h2, h3⟩ := h.2 e; ⟨a, c, h1, h2, h3.mono hle⟩⟩
def OkI (P : Pk) (c : Nat) (sn : List Pk) (k : Nat) (ok : Bool) : Prop := ok = true ∨ (¬ (P = pk0 ∧ 0 < c) ∧ P ∉ sn.take k)
theorem okStart {P : Pk} {c : Nat} {sn : List Pk} {ok : Bool} (h : ok = true ↔ (P = pk0 ∧ 0 < c)) : OkI P c sn 0 ok := by
  by_cases hc : P = pk0 ∧ 0 < c
  · exact Or.inl (h.2 hc)
  · exact Or.inr ⟨hc, by simp⟩
theorem okStep {P x : Pk} {c k : Nat} {sn : List Pk} (h : OkI P c sn k false) (hx : sn[k]? = some x) : OkI P c sn (k + 1) (decide (x = P)) := by
  rcases h with h | ⟨h1, h2⟩
  · cases h
  · by_cases he : x = P
    · exact Or.inl (decide_eq_true he)
    · refine Or.inr ⟨h1, fun hm => ?_⟩
      rw [take_snoc hx] at hm
      rcases List.mem_append.1 hm with hm | hm
      · exact h2 hm
      · simp at hm; exact he hm.symm
theorem okEnd {P : Pk} {c k : Nat} {sn : List Pk} {ok : Bool} (h : OkI P c sn k ok) (hk : sn.length ≤ k) (hd : (P = pk0 ∧ 0 < c) ∨ P ∈ sn) : ok = true := by
  rcases h with h | ⟨h1, h2⟩
  · exact h
  · rw [List.take_of_length_le hk] at h2
    rcases hd with hd | hd
    · exact absurd hd h1
    · exact absurd hd h2
end Go.Proofs
