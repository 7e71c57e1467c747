/- TopSealed: the row's statement and the card. -/
import Derived.Test.YtbeecebebeamiaaGreatDoorB10
import Derived.Test.YtbeecebebeamiaaGreatDoorCards
import Derived.Test.YtbeecebebeamiaaGreatDoorTie
import Derived.WalkKit
import Derived.ProofKit
import Derived.OpenShut
import Derived.ChangeOld
import Derived.Below
import Derived.Deep.DeepHandedRow
import Derived.Lib.LaidTab
import Derived.SizedLaws
set_option maxRecDepth 100000
set_option autoImplicit false
set_option linter.unusedVariables false
set_option linter.unusedSimpArgs false
namespace Go.Proofs.YtbeecebebeamiaaGreatDoor.topSealed
open Go.ChangeShapes Go.WideShapes Go.ChangeAt Go.RowKit Go.XL
theorem own : ownKnob Tryz.prog.godebug = none := by kernel_rfl
theorem laidOut : laidOutB Tryz.prog = true := by kernel_rfl
abbrev aBn : List Int := [1779033703, 3144134277, 1013904242, 2773480762, 1359893119, 2600822924, 528734635, 1541459225]
abbrev aGm : List Int := [1116352408, 1899447441, 3049323471, 3921009573, 961987163, 1508970993, 2453635748, 2870763221, 3624381080, 310598401, 607225278, 1426881987, 1925078388, 2162078206, 2614888103, 3248222580, 3835390401, 4022224774, 264347078, 604807628, 770255983, 1249150122, 1555081692, 1996064986, 2554220882, 2821834349, 2952996808, 3210313671, 3336571891, 3584528711, 113926993, 338241895, 666307205, 773529912, 1294757372, 1396182291, 1695183700, 1986661051, 2177026350, 2456956037, 2730485921, 2820302411, 3259730800, 3345764771, 3516065817, 3600352804, 4094571909, 275423344, 430227734, 506948616, 659060556, 883997877, 958139571, 1322822218, 1537002063, 1747873779, 1955562222, 2024104815, 2227730452, 2361852424, 2428436474, 2756734187, 3204031479, 3329325298]
theorem aLm : Tryz.prog.globalNamed "podium/digest.start" = some 0 := by kernel_rfl
theorem aM1 : Tryz.prog.globalNamed "podium/digest.numbers" = some 2 := by kernel_rfl
theorem gStartT : (Tryz.prog.globals[0]?).map (·.type) = some 223 := by kernel_rfl
theorem gNumsT : (Tryz.prog.globals[2]?).map (·.type) = some 231 := by kernel_rfl
theorem aIt {W : World} (h : laidMetH Tryz.prog Rows.topSealedRow.laid W) : TB (aH7 W) (aBn, aGm) := by
  have h1 : laidMet Tryz.prog (("podium/digest.start", Lib.tabData .u32 aBn) :: [("podium/digest.numbers", Lib.tabData .u32 aGm)]) W := h
  have t1 : Lib.TabIs Tryz.prog W "podium/digest.start" .u32 aBn := Lib.tabIs_of_head aLm gStartT Tryz.underlying223 Tryz.underlying222 (by kernel_rfl) (by kernel_rfl) h1
  have t2 : Lib.TabIs Tryz.prog W "podium/digest.numbers" .u32 aGm := Lib.tabIs_of_head aM1 gNumsT Tryz.underlying231 Tryz.underlying222 (by kernel_rfl) (by kernel_rfl) (tail_laid h1)
  exact ⟨by decide, by decide, aD7 aLm t1, aD7 aM1 t2⟩
theorem aGv (H : Type) (enc : TypeId × Value → H) (W : World) (base : Nat) (args : Array Value) (ds gs : List (DataW H)) (before : List MemPlace)
    (hval : ∀ (j : Nat) t v, Tryz.f3.params[j]? = some t → args[j]? = some v → Value.okWide Tryz.prog W .any base t v)
    (hW : DataW.Whole enc Tryz.prog Tryz.f3.params.toList Rows.topSealedSpec.vars false W args.toList ds gs before) (hL : laidMetH Tryz.prog Rows.topSealedRow.laid W)
    (hz : (DataW.weightsEach Tryz.prog Tryz.f3.params.toList ds).all (· ≤ reachBytes) = true) :
    Calls Tryz.prog 3 args W fun e W' => ∃ v, e = .returned v ∧ Rows.topSealedSpec.post enc Tryz.prog Tryz.f3 false true false false W args v W' := by
  have hW' := hW
  obtain ⟨p, q, hA0, hV, rfl, hfz, hnd⟩ := hW
  have hA : DataW.TrodAll enc Tryz.prog W 0 (fun _ => true) true Tryz.f3.params.toList args.toList ds p := hA0
  rw [Tryz.params3] at hA hval hz
  obtain ⟨v0, vs0, d0, ds0, p0, q0, hargs, rfl, rfl, h0, r0⟩ := trodAll_cons hA
  obtain ⟨v1, vs1, d1, ds1, p1, q1, rfl, rfl, rfl, h1, r1⟩ := trodAll_cons r0
  obtain ⟨v2, vs2, d2, ds2, p2, q2, rfl, rfl, rfl, h2, r2⟩ := trodAll_cons r1
  obtain ⟨rfl, rfl, rfl⟩ := trodAll_nil r2
  obtain rfl : args = #[v0, v1, v2] := by cases args; simp_all
  obtain ⟨rfl, rfl⟩ := trodVars_none hV
  obtain ⟨a0, len0, cap0, rfl⟩ := okWide_slice Tryz.underlying22 (hval 0 22 v0 rfl rfl)
  have k0 := h0
  have lt0 : ∀ x ∈ p0, x.block < W.heap.size := by obtain ⟨m, hm⟩ := k0; exact DataW.trod_lt m _ _ _ hm
  obtain ⟨fuel0, hf0⟩ := h0
  have hn0 : len0 ≤ reachBytes := by
    rcases DataW.trod_slice Tryz.underlying22 hf0 with ⟨e, _⟩ | ⟨a, len, cap, elems, rest, n, _, e, ex, _, _, _, rF, _⟩
    · simp [Value.cells] at e; omega
    · simp [Value.cells] at e
      have e1 : d0 = .slice (elems.map (·.1)) (rest.map (·.1)) := congrArg Prod.fst ex
      have := sized_slice hz (j := 0) rfl (by rw [e1]; rfl) Tryz.underlying22
      rw [show Tryz.prog.bytesOf 37 = 112 by kernel_rfl] at this
      simp only [List.length_map] at this
      omega
  obtain ⟨l0, ⟨aa0, cc0, hcs0, hs0⟩, hw0⟩ := ks_jdgs enc W 0 _ _ fuel0 _ _ hf0
  simp [Value.cells] at hcs0
  obtain ⟨rfl, rfl, rfl⟩ := hcs0
  obtain ⟨a1, rfl, rfl, rfl, w1⟩ := open_int Tryz.underlying5 (hval 1 5 v1 rfl rfl) h1
  obtain ⟨a2, rfl, rfl, rfl, w2⟩ := open_int Tryz.underlying5 (hval 2 5 v2 rfl rfl) h2
  have b1 := aMi w1
  have b2 := aMi w2
  have hl : l0.length < 4611686018427387904 := by
    unfold reachBytes at hn0; omega
  clear hA0
  refine (topSealed_fn (aBn, aGm) (aH7 W) (aIt hL) a0 cap0 l0 a1 a2 hs0 hl (by omega) (by omega)).below.mono fun e W' ⟨he, bel⟩ => ?_
  subst he
  exact ⟨_, rfl, _, _, _, [], _, [], hW', trodAll_mk1 (shut_bool Tryz.underlying4 _), (trodAll_cons_mk (Below.trod laidOut (by kernel_rfl) (of_decide_eq_true (by kernel_rfl)) k0 bel lt0) (trodAll_cons_mk (shut_int Tryz.underlying5 w1) (trodAll_cons_mk (shut_int Tryz.underlying5 w2) trodAll_mk0))), rfl, bel.frame _, fun h => by cases h⟩
/-- a world for the witness: the aIt hold what the program lays -/
def aLe (l : List Int) : Obj → Obj
  | .cells _ t k => .cells (l.map (Value.int .u32)).toArray t k
  | o => o
noncomputable def aAf (os : Os) : World :=
  { World.holding Tryz.prog os ⟨#[], #[], []⟩ with heap := ((World.holding Tryz.prog os ⟨#[], #[], []⟩).heap.modify 0 (aLe aBn)).modify 2 (aLe aGm) }
abbrev aI5 : Array Value := #[.slice none 0 0, .int .u8 0, .int .u8 0]
theorem laid_met (os : Os) : laidMet Tryz.prog Rows.topSealedRow.laid ((aAf os).forCall (fun _ _ => 0) ⟨#[], aI5, []⟩).memory :=
  laidMet_of_run' 8 (by kernel_rfl) (by kernel_rfl)
theorem reads (os : Os) {H : Type} (enc : TypeId × Value → H) : ∃ ds places, DataW.whole enc Tryz.prog ((aAf os).forCall (fun _ _ => 0) ⟨#[], aI5, []⟩).memory Tryz.f3.params.toList Rows.topSealedSpec.vars false aI5.toList 8 = some (ds, [], places) :=
  ⟨[.nil, .lit (.int .u8 0), .lit (.int .u8 0)], [], by kernel_rfl⟩
theorem lifted (os : Os) (started : os.Started) (H : Type) (enc : TypeId × Value → H) (F : Stop.Interp) :
    ReturnsInHanded {} Tryz.checked os 3 .any ((OpenSpec.ofChange Rows.topSealedSpec).preRow enc Tryz.prog Tryz.f3 Rows.topSealedRow.domain false Rows.topSealedRow.laid) (((OpenSpec.ofChange Rows.topSealedSpec).at F).post enc Tryz.prog Tryz.f3 false true false false) := by
  obtain ⟨ds, places, hx⟩ := reads os enc
  refine returnsInHanded_of_row (C := Tryz.checked) (s := OpenSpec.ofChange Rows.topSealedSpec) own started (by kernel_rfl) Tryz.func3
    (witness_row_at (enc := enc) (C := Tryz.checked) false (aAf os) aI5 rfl (by kernel_rfl) (by kernel_rfl) (by kernel_rfl)
      (OpenSpec.preRow_of_cond 8 hx (by kernel_rfl) (fun k hk => by cases hk) (by kernel_rfl) (laid_met os))) ?_
  intro W base args ds gs before hval hW _ _ hz hL _ _
  have hg : gs = [] := by
    obtain ⟨_, _, _, hV, _⟩ := hW
    exact (trodVars_none hV).1
  subst hg
  exact aGv H enc W base args ds [] before hval hW hL (by
    have h : (DataW.weightsEach Tryz.prog (Tryz.f3.params.toList ++ []) (ds ++ [])).all (· ≤ reachBytes) = true := hz
    rw [List.append_nil, List.append_nil] at h
    exact h)
theorem said : Rows.TopSealedSaid :=
  OpenClaim.holds_of_cond 3 Tryz.f3 rfl rfl rfl rfl rfl rfl rfl ⟨rfl, rfl, rfl, rfl, rfl⟩ rfl rfl rfl rfl rfl (by kernel_rfl) Tryz.func3 (by kernel_rfl)
    (of_decide_eq_true (by kernel_rfl)) (by unfold Func.isWrapper; first | (rw [if_pos (by decide +kernel)]; kernel_rfl) | (rw [if_neg (by decide +kernel)]; exact ⟨rfl, rfl⟩))
    (fun os started H enc _ F => by rw [OpenClaim.pre_eq_preRow]; exact lifted os started H enc F)
theorem kS (f : FuncId) (fn : Func) (hf : Tryz.pinned.checked.prog.funcNamed "podium/podiumtop.TopSealed" = some f) (hfn : Tryz.pinned.checked.prog.funcs[f]? = some fn) :
    true = Tryz.pinned.checked.prog.looks [] ∧ ∀ (j : Nat) t, fn.params[j]? = some t → Tryz.pinned.checked.prog.wantsStandIn t = false := by
  obtain rfl : f = 3 := Option.some.inj ((show Tryz.prog.funcNamed "podium/podiumtop.TopSealed" = some 3 by kernel_rfl).symm.trans hf) |>.symm
  obtain rfl : fn = Tryz.f3 := (Option.some.inj (Tryz.func3.symm.trans hfn)).symm
  refine ⟨by kernel_rfl, fun j t ht => ?_⟩
  rw [Tryz.params3] at ht
  have h22 : Tryz.prog.wantsStandIn 22 = false := by kernel_rfl
  have h5 : Tryz.prog.wantsStandIn 5 = false := by kernel_rfl
  rcases j with _ | _ | _ | j
  · obtain rfl : 22 = t := by simpa using ht
    exact h22
  · obtain rfl : 5 = t := by simpa using ht
    exact h5
  · obtain rfl : 5 = t := by simpa using ht
    exact h5
  · simp at ht
/-- The given statement. -/
theorem proved : Rows.TopSealedCardSaid :=
  Claim7.holds_tied_plain_at .later [] _ _ _ _ said (fun _ h => by cases h) (by kernel_rfl) (fun _ h => by cases h) topSealed_row_tie rfl ⟨rfl, rfl⟩ (by kernel_rfl) rfl kS (by kernel_rfl)
#print axioms proved
end Go.Proofs.YtbeecebebeamiaaGreatDoor.topSealed
