/- The walks of the functions of the codec: what each of them computes, at any input. -/
import Derived.Test.YtngedgknbebgpaaB4
set_option autoImplicit false
set_option linter.unusedVariables false
set_option linter.unusedSimpArgs false
namespace Go.Proofs
open Go.XL



theorem w1_fn (n : Int) (s : List UInt8) (l : List Val) (a : Option Addr) (c : Nat) (hn : -9223372036854775808 ≤ n ∧ n ≤ 9223372036854775807) (po : Nat × SObj) (ao : Option Addr) (co : Nat) (l0 : List UInt8) (H : Hp) (hacc : AccB H po ao co l0) (hl0 : l0.length ≤ 60000000) : FnC Try.prog 37 #[.slice ao l0.length co, .agg ⟨[.int .i64 1, .int .i64 n, .string (bsOf s), .slice a l.length c]⟩] H [po] (RetR (fun v H2 own => ∃ po2 a2 c2, own = [po2] ∧ v = .slice a2 (l0 ++ encV (.mk 1 n s l)).length c2 ∧ AccB H2 po2 a2 c2 (l0 ++ encV (.mk 1 n s l)))) := by
  refine FnC.intro (args := [.slice ao l0.length co, .agg ⟨[.int .i64 1, .int .i64 n, .string (bsOf s), .slice a l.length c]⟩]) Try.func37 rfl rfl Try.ntmps37 rfl rfl rfl fun G rest => ?_
  have hu := uns_lt2 hn
  refine XC.seq ?_
  refine XC.region ?_
  refine XO.box rfl rfl rfl (fun b3 => ?_)
  refine XO.perm (List.Perm.swap _ _ _) ?_
  refine XO.assign rfl rfl ?_
  refine XO.nil ?_
  refine XC.seq2 ?_
  refine XC.seq ?_
  refine XC.keep [0, 3] rfl ?_
  apply XC.drawQ (fun _ => True) trivial [2] (FOl (fun j => [l0, l0 ++ [1]].getD j []) ao co) (FOl_mono _ _ _) 5 [eqF _, slF u8R [1], anyF, eqF _, eqF _] follows (by kernel_rfl) ⟨eqF_mono _, slF_mono _ _, anyF_mono, eqF_mono _, eqF_mono _, trivial⟩ (by kernel_rfl) (FOl_0 hacc) ?steps1 ?tail1
  case steps1 =>
    refine stepsQ_cons rfl ?_ ?_
    · intro X e HD hleD _
      replace hacc := hacc.mono hleD
      refine withP_nil rfl ?_
      intro hfa
      refine XO.move rfl rfl ?_
      refine XO.nil ?_
      exact stepQV_ok trivial (rfl) (foQ_no rfl)
    refine stepsQ_cons rfl ?_ ?_
    · intro X e HD hleD _
      replace hacc := hacc.mono hleD
      refine withP_nil rfl ?_
      intro hfa
      refine XO.buildSlice rfl Try.underlying27 ty_5 ze_5 rfl rfl rfl (fun b6 => ?_)
      refine XO.publish 0 rfl rfl rfl (fun HP6 oP6 hleP6 hbP6 hoP6 => ?_)
      have hsl6 := SlR.lit (ρ := u8R) (l := [1]) hbP6 hoP6 (RowsR.one1 rfl)
      replace hacc := hacc.mono hleP6
      refine XO.nil ?_
      exact stepQV_ok trivial (⟨_, rfl, hsl6⟩) (foQ_no rfl)
    refine stepsQ_cons rfl ?_ ?_
    · intro X e HD hleD _
      replace hacc := hacc.mono hleD
      refine withP_cons rfl rfl ?_
      rintro _ rfl
      refine withP_cons rfl rfl ?_
      rintro _ ⟨bs6, rfl, hsl6⟩
      refine withP_nil rfl ?_
      intro hfa
      have hfa0 := (factQ_0 rfl hfa).1 rfl
      refine XO.appendA 0 rfl rfl hfa0 rfl rfl hsl6 rfl Try.underlying27 ty_5 ze_5 rfl by_5 (by simp; omega) rfl (fun p7 a7 c7 hacc7 => ?_)
      refine XO.nil ?_
      exact stepQV_ok trivial (trivial) (foQ_mod rfl (by exact FOl_s hacc7))
    refine stepsQ_cons rfl ?_ ?_
    · intro X e HD hleD _
      replace hacc := hacc.mono hleD
      refine withP_nil rfl ?_
      intro hfa
      refine XO.fieldAddr rfl fa_24_1 rfl ?_
      refine XO.nil ?_
      exact stepQV_ok trivial (rfl) (foQ_no rfl)
    refine stepsQ_cons rfl ?_ ?_
    · intro X e HD hleD _
      replace hacc := hacc.mono hleD
      refine withP_cons rfl rfl ?_
      rintro _ rfl
      refine withP_nil rfl ?_
      intro hfa
      refine XO.loadO 1 rfl rfl ty_3 rfl rfl rfl ?_
      refine XO.nil ?_
      exact stepQV_ok trivial (rfl) (foQ_no rfl)
    exact stepsQ_end rfl
  case tail1 =>
    intro HD hleD _
    replace hacc := hacc.mono hleD
    refine withP_cons rfl rfl ?_
    rintro _ rfl
    refine withP_cons rfl rfl ?_
    rintro _ ⟨bs6, rfl, hsl6⟩
    refine withP_cons rfl rfl ?_
    rintro _ _
    refine withP_cons rfl rfl ?_
    rintro _ rfl
    refine withP_cons rfl rfl ?_
    rintro _ rfl
    refine withP_nil rfl ?_
    intro e he
    have hfb := lastQ_s rfl he rfl rfl
    obtain ⟨a7, c7, hv7, hacc7⟩ := hfb.2 (by decide)
    subst hv7
    refine XO.callV rfl (uns_fn n hn _) rfl ?_
    have hcall := num_fn e a7 c7 (l0 ++ [1]) (unsV n) _ hacc7 (by omega) (by simp; omega)
    refine XO.callF 0 rfl hcall rfl rfl ?_
    rintro _ HN11 _ hleN11 ⟨p11, a11, c11, rfl, rfl, hacc11⟩
    refine ⟨_, rfl, ?_⟩
    replace hacc := hacc.mono hleN11
    replace hsl6 := hsl6.mono hleN11
    refine XO.assign rfl rfl ?_
    refine XO.nil ?_
    refine XC.seq2 ?_
    refine XC.ret ?_
    refine ⟨rfl, _, [_], rfl, (by repeat (first | exact List.Sublist.refl _ | apply List.Sublist.cons_cons | apply List.Sublist.cons)), RetR.mk ?_⟩
    rw [encV1, ← List.append_assoc]
    exact ⟨_, _, _, rfl, rfl, by assumption⟩

theorem w2_fn (n : Int) (s : List UInt8) (l : List Val) (a : Option Addr) (c : Nat) (po : Nat × SObj) (ao : Option Addr) (co : Nat) (l0 : List UInt8) (H : Hp) (hacc : AccB H po ao co l0) (hl0 : l0.length + s.length ≤ 60000000) : FnC Try.prog 40 #[.slice ao l0.length co, .agg ⟨[.int .i64 2, .int .i64 n, .string (bsOf s), .slice a l.length c]⟩] H [po] (RetR (fun v H2 own => ∃ po2 a2 c2, own = [po2] ∧ v = .slice a2 (l0 ++ encV (.mk 2 n s l)).length c2 ∧ AccB H2 po2 a2 c2 (l0 ++ encV (.mk 2 n s l)))) := by
  refine FnC.intro (args := [.slice ao l0.length co, .agg ⟨[.int .i64 2, .int .i64 n, .string (bsOf s), .slice a l.length c]⟩]) Try.func40 rfl rfl Try.ntmps40 rfl rfl rfl fun G rest => ?_
  have hnl := numL_10 (u := s.length) (by omega)
  refine XC.seq ?_
  refine XC.region ?_
  refine XO.box rfl rfl rfl (fun b3 => ?_)
  refine XO.perm (List.Perm.swap _ _ _) ?_
  refine XO.assign rfl rfl ?_
  refine XO.nil ?_
  refine XC.seq2 ?_
  refine XC.seq ?_
  refine XC.keep [0, 3] rfl ?_
  apply XC.drawQ (fun _ => True) trivial [2, 7] (FOl (fun j => [l0, l0 ++ [2], (l0 ++ [2]) ++ numL s.length].getD j []) ao co) (FOl_mono _ _ _) 10 [eqF _, slF u8R [2], anyF, eqF _, eqF _, eqF _, eqF _, anyF, eqF _, eqF _] follows (by kernel_rfl) ⟨eqF_mono _, slF_mono _ _, anyF_mono, eqF_mono _, eqF_mono _, eqF_mono _, eqF_mono _, anyF_mono, eqF_mono _, eqF_mono _, trivial⟩ (by kernel_rfl) (FOl_0 hacc) ?steps1 ?tail1
  case steps1 =>
    refine stepsQ_cons rfl ?_ ?_
    · intro X e HD hleD _
      replace hacc := hacc.mono hleD
      refine withP_nil rfl ?_
      intro hfa
      refine XO.move rfl rfl ?_
      refine XO.nil ?_
      exact stepQV_ok trivial (rfl) (foQ_no rfl)
    refine stepsQ_cons rfl ?_ ?_
    · intro X e HD hleD _
      replace hacc := hacc.mono hleD
      refine withP_nil rfl ?_
      intro hfa
      refine XO.buildSlice rfl Try.underlying27 ty_5 ze_5 rfl rfl rfl (fun b6 => ?_)
      refine XO.publish 0 rfl rfl rfl (fun HP6 oP6 hleP6 hbP6 hoP6 => ?_)
      have hsl6 := SlR.lit (ρ := u8R) (l := [2]) hbP6 hoP6 (RowsR.one1 rfl)
      replace hacc := hacc.mono hleP6
      refine XO.nil ?_
      exact stepQV_ok trivial (⟨_, rfl, hsl6⟩) (foQ_no rfl)
    refine stepsQ_cons rfl ?_ ?_
    · intro X e HD hleD _
      replace hacc := hacc.mono hleD
      refine withP_cons rfl rfl ?_
      rintro _ rfl
      refine withP_cons rfl rfl ?_
      rintro _ ⟨bs6, rfl, hsl6⟩
      refine withP_nil rfl ?_
      intro hfa
      have hfa0 := (factQ_0 rfl hfa).1 rfl
      refine XO.appendA 0 rfl rfl hfa0 rfl rfl hsl6 rfl Try.underlying27 ty_5 ze_5 rfl by_5 (by simp; omega) rfl (fun p7 a7 c7 hacc7 => ?_)
      refine XO.nil ?_
      exact stepQV_ok trivial (trivial) (foQ_mod rfl (by exact FOl_s hacc7))
    refine stepsQ_cons rfl ?_ ?_
    · intro X e HD hleD _
      replace hacc := hacc.mono hleD
      refine withP_nil rfl ?_
      intro hfa
      refine XO.fieldAddr rfl fa_24_2 rfl ?_
      refine XO.nil ?_
      exact stepQV_ok trivial (rfl) (foQ_no rfl)
    refine stepsQ_cons rfl ?_ ?_
    · intro X e HD hleD _
      replace hacc := hacc.mono hleD
      refine withP_cons rfl rfl ?_
      rintro _ rfl
      refine withP_nil rfl ?_
      intro hfa
      refine XO.loadO 1 rfl rfl ty_9 rfl rfl rfl ?_
      refine XO.nil ?_
      exact stepQV_ok trivial (rfl) (foQ_no rfl)
    refine stepsQ_cons rfl ?_ ?_
    · intro X e HD hleD _
      replace hacc := hacc.mono hleD
      refine withP_cons rfl rfl ?_
      rintro _ rfl
      refine withP_nil rfl ?_
      intro hfa
      refine XO.lenStr rfl Try.underlying9 (by omega) rfl ?_
      refine XO.nil ?_
      exact stepQV_ok trivial (rfl) (foQ_no rfl)
    refine stepsQ_cons rfl ?_ ?_
    · intro X e HD hleD _
      replace hacc := hacc.mono hleD
      refine withP_cons rfl rfl ?_
      rintro _ rfl
      refine withP_nil rfl ?_
      intro hfa
      refine XO.convI (c := ((s.length : Nat) : Int)) rfl Try.underlying3 Try.underlying68 (wrap_u64 (by omega) (by omega)) rfl ?_
      refine XO.nil ?_
      exact stepQV_ok trivial (rfl) (foQ_no rfl)
    refine stepsQ_cons rfl ?_ ?_
    · intro X e HD hleD _
      replace hacc := hacc.mono hleD
      refine withP_cons rfl rfl ?_
      rintro _ _
      refine withP_cons rfl rfl ?_
      rintro _ rfl
      refine withP_nil rfl ?_
      intro hfa
      have hfb := factQ_s rfl hfa rfl rfl
      obtain ⟨a7, c7, hv7, hfa0⟩ := hfb.2 (by decide)
      subst hv7
      have hcall := num_fn e a7 c7 (l0 ++ [2]) s.length _ hfa0 (by omega) (by simp; omega)
      refine XO.callF 0 rfl hcall rfl rfl ?_
      rintro _ HN12 _ hleN12 ⟨p12, a12, c12, rfl, rfl, hacc12⟩
      refine ⟨_, rfl, ?_⟩
      replace hacc := hacc.mono hleN12
      refine XO.nil ?_
      exact stepQV_ok trivial (trivial) (foQ_mod rfl (by exact FOl_s hacc12))
    refine stepsQ_cons rfl ?_ ?_
    · intro X e HD hleD _
      replace hacc := hacc.mono hleD
      refine withP_nil rfl ?_
      intro hfa
      refine XO.fieldAddr rfl fa_24_2 rfl ?_
      refine XO.nil ?_
      exact stepQV_ok trivial (rfl) (foQ_no rfl)
    refine stepsQ_cons rfl ?_ ?_
    · intro X e HD hleD _
      replace hacc := hacc.mono hleD
      refine withP_cons rfl rfl ?_
      rintro _ rfl
      refine withP_nil rfl ?_
      intro hfa
      refine XO.loadO 1 rfl rfl ty_9 rfl rfl rfl ?_
      refine XO.nil ?_
      exact stepQV_ok trivial (rfl) (foQ_no rfl)
    exact stepsQ_end rfl
  case tail1 =>
    intro HD hleD _
    replace hacc := hacc.mono hleD
    refine withP_cons rfl rfl ?_
    rintro _ rfl
    refine withP_cons rfl rfl ?_
    rintro _ ⟨bs6, rfl, hsl6⟩
    refine withP_cons rfl rfl ?_
    rintro _ _
    refine withP_cons rfl rfl ?_
    rintro _ rfl
    refine withP_cons rfl rfl ?_
    rintro _ rfl
    refine withP_cons rfl rfl ?_
    rintro _ rfl
    refine withP_cons rfl rfl ?_
    rintro _ rfl
    refine withP_cons rfl rfl ?_
    rintro _ _
    refine withP_cons rfl rfl ?_
    rintro _ rfl
    refine withP_cons rfl rfl ?_
    rintro _ rfl
    refine withP_nil rfl ?_
    intro e he
    have hfb := lastQ_s rfl he rfl rfl
    obtain ⟨a12, c12, hv12, hacc12⟩ := hfb.2 (by decide)
    subst hv12
    refine XO.appendS 0 rfl rfl hacc12 rfl rfl Try.underlying27 Try.underlying9 ty_5 ze_5 rfl by_5 (by simp; omega) rfl (fun p15 a15 c15 hacc15 => ?_)
    refine XO.assign rfl rfl ?_
    refine XO.nil ?_
    refine XC.seq2 ?_
    refine XC.ret ?_
    refine ⟨rfl, _, [_], rfl, (by repeat (first | exact List.Sublist.refl _ | apply List.Sublist.cons_cons | apply List.Sublist.cons)), RetR.mk ?_⟩
    rw [encV2, ← List.append_assoc, ← List.append_assoc]
    exact ⟨_, _, _, rfl, rfl, by assumption⟩
/-- what the writer of lists does with values up to a size -/
def W3 (bw b1 m : Nat) : Prop := ∀ (n : Int) (s : List UInt8) (l : List Val) (a : Option Addr) (c : Nat) (po : Nat × SObj) (ao : Option Addr) (co : Nat) (l0 : List UInt8) (H : Hp), wszV (.mk 3 n s l) ≤ m → m ≤ 1000000 → formedB (.mk 3 n s l) = true → Fit (.mk 3 n s l) → l0.length + wszV (.mk 3 n s l) ≤ 50000000 → WrH H bw b1 → SlR valR H a c l → AccB H po ao co l0 →
  FnC Try.prog 41 #[.slice ao l0.length co, .agg ⟨[.int .i64 3, .int .i64 n, .string (bsOf s), .slice a l.length c]⟩, .pointer (some ⟨b1, 0, none⟩)] H [po] (RetR (fun v H2 own => ∃ po2 a2 c2, own = [po2] ∧ v = .slice a2 (l0 ++ encV (.mk 3 n s l)).length c2 ∧ AccB H2 po2 a2 c2 (l0 ++ encV (.mk 3 n s l))))
theorem wr_any {bw b1 m : Nat} (ih : W3 bw b1 m) {k n : Int} {s : List UInt8} {l : List Val} {a : Option Addr} {c : Nat} {po : Nat × SObj} {ao : Option Addr} {co : Nat} {l0 : List UInt8} {H : Hp} (hw : wszV (.mk k n s l) ≤ m) (hm : m ≤ 1000000) (hf : formedB (.mk k n s l) = true) (hfit : Fit (.mk k n s l)) (hl : l0.length + wszV (.mk k n s l) ≤ 50000000) (hW : WrH H bw b1) (hs : SlR valR H a c l) (hacc : AccB H po ao co l0) :
    FnV Try.prog (wfun b1 k) [.slice ao l0.length co, .agg ⟨[.int .i64 k, .int .i64 n, .string (bsOf s), .slice a l.length c]⟩] H [po] (RetR (fun v H2 own => ∃ po2 a2 c2, own = [po2] ∧ v = .slice a2 (l0 ++ encV (.mk k n s l)).length c2 ∧ AccB H2 po2 a2 c2 (l0 ++ encV (.mk k n s l)))) := by
  obtain ⟨f1, f2, f3, f4⟩ := hfit.of
  rcases formed_kind hf with rfl | rfl | rfl
  · exact FnV.of_fn (cap := []) (args := [_, _]) (w1_fn n s l a c f1 po ao co l0 H hacc (by omega))
  · exact FnV.of_fn (cap := []) (args := [_, _]) (w2_fn n s l a c po ao co l0 H hacc (by rw [wszV] at hl; omega))
  · exact FnV.of_fn (cap := [_]) (args := [_, _]) (ih n s l a c po ao co l0 H hw hm hf hfit hl hW hs hacc)

end Go.Proofs

/- The walks of the functions of the codec: what each of them computes, at any input. -/
set_option autoImplicit false
set_option linter.unusedVariables false
set_option linter.unusedSimpArgs false
namespace Go.Proofs
open Go.XL

theorem fa_49_0 : fieldF Try.prog 49 0 = some 0 := by kernel_rfl
theorem ty_50 : tyF Try.prog 50 1 false = true := by kernel_rfl

theorem w3_all (bw b1 : Nat) : ∀ m, W3 bw b1 m := by
  intro m
  refine Nat.strongRecOn m ?_
  clear m
  intro m ih n s l a c po ao co l0 H hw hm hf hfit hl hWr hs hacc
  obtain ⟨f1, f2, f3, f4⟩ := hfit.of
  have hfl := formedL_iff.1 (formed3.1 hf).2
  have hnl := numL_10 (u := l.length) (by omega)
  rw [wszV] at hw hl
  have hwl := wsz_len (l := l)
  refine FnC.intro (args := [.slice ao l0.length co, .agg ⟨[.int .i64 3, .int .i64 n, .string (bsOf s), .slice a l.length c]⟩, .pointer (some ⟨b1, 0, none⟩)]) Try.func41 rfl rfl Try.ntmps41 rfl rfl rfl fun G rest => ?_
  refine XC.seq ?_
  refine XC.region ?_
  refine XO.box rfl rfl rfl (fun b4 => ?_)
  refine XO.perm (List.Perm.swap _ _ _) ?_
  refine XO.assign rfl rfl ?_
  refine XO.nil ?_
  refine XC.seq2 ?_
  refine XC.seq ?_
  refine XC.keep [0, 2, 4] rfl ?_
  apply XC.drawQ (fun _ => True) trivial [2] (FOl (fun j => [l0, l0 ++ [3]].getD j []) ao co) (FOl_mono _ _ _) 7 [eqF _, slF u8R [3], anyF, eqF _, eqF _, eqF _, eqF _] follows (by kernel_rfl) ⟨eqF_mono _, slF_mono _ _, anyF_mono, eqF_mono _, eqF_mono _, eqF_mono _, eqF_mono _, trivial⟩ (by kernel_rfl) (FOl_0 hacc) ?steps1 ?tail1
  case steps1 =>
    refine stepsQ_cons rfl ?_ ?_
    · intro X e HD hleD _
      replace hacc := hacc.mono hleD
      replace hs := hs.mono hleD
      replace hWr := hWr.mono hleD
      refine withP_nil rfl ?_
      intro hfa
      refine XO.move rfl rfl ?_
      refine XO.nil ?_
      exact stepQV_ok trivial (rfl) (foQ_no rfl)
    refine stepsQ_cons rfl ?_ ?_
    · intro X e HD hleD _
      replace hacc := hacc.mono hleD
      replace hs := hs.mono hleD
      replace hWr := hWr.mono hleD
      refine withP_nil rfl ?_
      intro hfa
      refine XO.buildSlice rfl Try.underlying27 ty_5 ze_5 rfl rfl rfl (fun b9 => ?_)
      refine XO.publish 0 rfl rfl rfl (fun HP9 oP9 hleP9 hbP9 hoP9 => ?_)
      have hsl9 := SlR.lit (ρ := u8R) (l := [3]) hbP9 hoP9 (RowsR.one1 rfl)
      replace hacc := hacc.mono hleP9
      replace hs := hs.mono hleP9
      replace hWr := hWr.mono hleP9
      refine XO.nil ?_
      exact stepQV_ok trivial (⟨_, rfl, hsl9⟩) (foQ_no rfl)
    refine stepsQ_cons rfl ?_ ?_
    · intro X e HD hleD _
      replace hacc := hacc.mono hleD
      replace hs := hs.mono hleD
      replace hWr := hWr.mono hleD
      refine withP_cons rfl rfl ?_
      rintro _ rfl
      refine withP_cons rfl rfl ?_
      rintro _ ⟨bs9, rfl, hsl9⟩
      refine withP_nil rfl ?_
      intro hfa
      have hfa0 := (factQ_0 rfl hfa).1 rfl
      refine XO.appendA 0 rfl rfl hfa0 rfl rfl hsl9 rfl Try.underlying27 ty_5 ze_5 rfl by_5 (by simp; omega) rfl (fun p10 a10 c10 hacc10 => ?_)
      refine XO.nil ?_
      exact stepQV_ok trivial (trivial) (foQ_mod rfl (by exact FOl_s hacc10))
    refine stepsQ_cons rfl ?_ ?_
    · intro X e HD hleD _
      replace hacc := hacc.mono hleD
      replace hs := hs.mono hleD
      replace hWr := hWr.mono hleD
      refine withP_nil rfl ?_
      intro hfa
      refine XO.fieldAddr rfl fa_24_3 rfl ?_
      refine XO.nil ?_
      exact stepQV_ok trivial (rfl) (foQ_no rfl)
    refine stepsQ_cons rfl ?_ ?_
    · intro X e HD hleD _
      replace hacc := hacc.mono hleD
      replace hs := hs.mono hleD
      replace hWr := hWr.mono hleD
      refine withP_cons rfl rfl ?_
      rintro _ rfl
      refine withP_nil rfl ?_
      intro hfa
      refine XO.loadO 1 rfl rfl ty_22 rfl rfl rfl ?_
      refine XO.nil ?_
      exact stepQV_ok trivial (rfl) (foQ_no rfl)
    refine stepsQ_cons rfl ?_ ?_
    · intro X e HD hleD _
      replace hacc := hacc.mono hleD
      replace hs := hs.mono hleD
      replace hWr := hWr.mono hleD
      refine withP_cons rfl rfl ?_
      rintro _ rfl
      refine withP_nil rfl ?_
      intro hfa
      refine XO.lenS (ts := #[]) rfl Try.underlying22 rfl ?_
      refine XO.nil ?_
      exact stepQV_ok trivial (rfl) (foQ_no rfl)
    refine stepsQ_cons rfl ?_ ?_
    · intro X e HD hleD _
      replace hacc := hacc.mono hleD
      replace hs := hs.mono hleD
      replace hWr := hWr.mono hleD
      refine withP_cons rfl rfl ?_
      rintro _ rfl
      refine withP_nil rfl ?_
      intro hfa
      refine XO.convI (c := ((l.length : Nat) : Int)) rfl Try.underlying3 Try.underlying68 (wrap_u64 (by omega) (by omega)) rfl ?_
      refine XO.nil ?_
      exact stepQV_ok trivial (rfl) (foQ_no rfl)
    exact stepsQ_end rfl
  case tail1 =>
    intro HD hleD _
    replace hacc := hacc.mono hleD
    replace hs := hs.mono hleD
    replace hWr := hWr.mono hleD
    refine withP_cons rfl rfl ?_
    rintro _ rfl
    refine withP_cons rfl rfl ?_
    rintro _ ⟨bs9, rfl, hsl9⟩
    refine withP_cons rfl rfl ?_
    rintro _ _
    refine withP_cons rfl rfl ?_
    rintro _ rfl
    refine withP_cons rfl rfl ?_
    rintro _ rfl
    refine withP_cons rfl rfl ?_
    rintro _ rfl
    refine withP_cons rfl rfl ?_
    rintro _ rfl
    refine withP_nil rfl ?_
    intro e he
    have hfb := lastQ_s rfl he rfl rfl
    obtain ⟨a10, c10, hv10, hacc10⟩ := hfb.2 (by decide)
    subst hv10
    have hcall := num_fn e a10 c10 (l0 ++ [3]) l.length _ hacc10 (by omega) (by simp; omega)
    refine XO.callF 0 rfl hcall rfl rfl ?_
    rintro _ HN15 _ hleN15 ⟨p15, a15, c15, rfl, rfl, hacc15⟩
    refine ⟨_, rfl, ?_⟩
    replace hacc := hacc.mono hleN15
    replace hs := hs.mono hleN15
    replace hWr := hWr.mono hleN15
    replace hsl9 := hsl9.mono hleN15
    refine XO.assign rfl rfl ?_
    refine XO.nil ?_
    refine XC.seq2 ?_
    refine XC.seq ?_
    refine XC.seq ?_
    refine XC.region ?_
    refine XO.fieldAddr rfl fa_24_3 rfl ?_
    refine XO.loadO 1 rfl rfl ty_22 rfl rfl rfl ?_
    refine XO.lenS (ts := #[]) rfl Try.underlying22 rfl ?_
    refine XO.move rfl rfl ?_
    refine XO.nil ?_
    refine XC.seq2 ?_
    refine XC.block ?_
    refine XC.keep [0, 19, 2, 17, 18] rfl ?_
    refine XC.loop (base := [(2, _), (17, _), (18, _)]) (fun ζ : Nat × ((Nat × SObj) × Option Addr × Nat) => [(0, .slice ζ.2.2.1 (((l0 ++ [3]) ++ numL l.length) ++ encL (l.take (ζ.1))).length ζ.2.2.2), (19, .int .i64 (ζ.1 : Nat))]) (fun ζ Hl own => ζ.1 ≤ l.length ∧ ζ.2.1 :: rest = own ∧ Acc u8R 5 Hl ζ.2.1 ζ.2.2.1 ζ.2.2.2 (((l0 ++ [3]) ++ numL l.length) ++ encL (l.take (ζ.1)))) (fun ζ => l.length - ζ.1) (0, (p15, a15, c15)) (prov_cons (by show _ = some (Value.slice _ (_ ++ encL (l.take 0)).length _); rw [show encL (l.take 0) = [] from rfl, List.append_nil]; rfl) (prov_cons (rfl) (prov_cons (rfl) (prov_cons (rfl) (prov_cons (rfl) prov_nil))))) (by repeat (first | exact List.Sublist.refl _ | apply List.Sublist.cons_cons | apply List.Sublist.cons)) ⟨Nat.zero_le _, rfl, (by rw [show encL (l.take 0) = [] from rfl, List.append_nil]; exact hacc15)⟩ ?_
    rintro ⟨i, ⟨po, ao, co⟩⟩ Hl0 _ hle0 ⟨hki, rfl, hacco⟩
    replace hs := hs.mono hle0
    replace hWr := hWr.mono hle0
    replace hsl9 := hsl9.mono hle0
    try dsimp only at hki hacco ⊢
    refine XC.seq ?_
    refine XC.region ?_
    refine XO.lss rfl rfl rfl ?_
    refine XO.nil ?_
    refine XC.seq2 ?_
    refine XC.seq ?_
    refine XC.cond rfl (fun c0_4 => ?_) (fun c0_4 => ?_)
    · refine XC.skip ?_
      refine XC.seq2 ?_
      refine XC.seq ?_
      refine XC.block ?_
      refine XC.seq ?_
      refine XC.region ?_
      refine XO.indexN rfl hs rfl Try.underlying22 ty_24 (by omega) rfl ?_
      rintro eb21 eo21 _ x21 hx21 hR21 hp21
      obtain ⟨k21, n21, s21, l21⟩ := x21
      obtain ⟨a21, c21, rfl, hd21⟩ := valR_iff.1 hR21
      refine XO.loadH rfl (by assumption) ty_24 rfl rfl rfl ?_
      refine XO.alloc ze_24 rfl (fun b7 => ?_)
      refine XO.storeO 0 rfl rfl rfl rfl ty_24 rfl rfl rfl rfl rfl ?_
      refine XO.nil ?_
      refine XC.seq2 ?_
      refine XC.keep [0, 2, 7, 17, 18, 19] rfl ?_
      have hfx := hfl _ (List.mem_of_getElem? hx21)
      have hk3 := formed_kind hfx
      have hWp := hWr.p
      have hWa := hWr.at hk3
      have hwx := wsz_mem (List.mem_of_getElem? hx21)
      apply XC.draw 9 [eqF _, eqF _, eqF _, eqF _, eqF _, eqF _, eqF _, eqF _, eqF _] follows (by kernel_rfl) (by kernel_rfl) ⟨eqF_mono _, eqF_mono _, eqF_mono _, eqF_mono _, eqF_mono _, eqF_mono _, eqF_mono _, eqF_mono _, eqF_mono _, trivial⟩ ?steps6 ?tail6
      case steps6 =>
        refine stepsK_cons rfl ?_ ?_
        · intro X
          refine withPreds_nil rfl ?_
          refine XO.loadH rfl (by assumption) ty_50 rfl rfl rfl ?_
          refine XO.nil ?_
          exact stepQ_ok rfl (rfl)
        refine stepsK_cons rfl ?_ ?_
        · intro X
          refine withPreds_nil rfl ?_
          refine XO.fieldAddr rfl fa_24_0 rfl ?_
          refine XO.nil ?_
          exact stepQ_ok rfl (rfl)
        refine stepsK_cons rfl ?_ ?_
        · intro X
          refine withPreds_cons rfl rfl ?_
          rintro _ rfl
          refine withPreds_nil rfl ?_
          refine XO.loadO 0 rfl rfl ty_3 rfl rfl rfl ?_
          refine XO.nil ?_
          exact stepQ_ok rfl (rfl)
        refine stepsK_cons rfl ?_ ?_
        · intro X
          refine withPreds_cons rfl rfl ?_
          rintro _ rfl
          refine withPreds_nil rfl ?_
          refine XO.nilCheckP rfl rfl ?_
          refine XO.nil ?_
          exact stepQ_ok rfl (rfl)
        refine stepsK_cons rfl ?_ ?_
        · intro X
          refine withPreds_cons rfl rfl ?_
          rintro _ rfl
          refine withPreds_cons rfl rfl ?_
          rintro _ rfl
          refine withPreds_nil rfl ?_
          refine XO.indexArr rfl rfl Try.underlying66 ty_49 (by omega) (by omega) rfl ?_
          refine XO.nil ?_
          exact stepQ_ok rfl (rfl)
        refine stepsK_cons rfl ?_ ?_
        · intro X
          refine withPreds_cons rfl rfl ?_
          rintro _ rfl
          refine withPreds_nil rfl ?_
          refine XO.fieldAddr rfl fa_49_0 rfl ?_
          refine XO.nil ?_
          exact stepQ_ok rfl (rfl)
        refine stepsK_cons rfl ?_ ?_
        · intro X
          refine withPreds_cons rfl rfl ?_
          rintro _ rfl
          refine withPreds_nil rfl ?_
          refine XO.loadHF rfl (by assumption) ty_47 rfl rfl rfl ?_
          refine XO.nil ?_
          exact stepQ_ok rfl (rfl)
        refine stepsK_cons rfl ?_ ?_
        · intro X
          refine withPreds_nil rfl ?_
          refine XO.move rfl rfl ?_
          refine XO.nil ?_
          exact stepQ_ok rfl (rfl)
        refine stepsK_cons rfl ?_ ?_
        · intro X
          refine withPreds_nil rfl ?_
          refine XO.loadO 0 rfl rfl ty_24 rfl rfl rfl ?_
          refine XO.nil ?_
          exact stepQ_ok rfl (rfl)
        exact stepsD_end rfl
      case tail6 =>
        refine withPreds_cons rfl rfl ?_
        rintro _ rfl
        refine withPreds_cons rfl rfl ?_
        rintro _ rfl
        refine withPreds_cons rfl rfl ?_
        rintro _ rfl
        refine withPreds_cons rfl rfl ?_
        rintro _ rfl
        refine withPreds_cons rfl rfl ?_
        rintro _ rfl
        refine withPreds_cons rfl rfl ?_
        rintro _ rfl
        refine withPreds_cons rfl rfl ?_
        rintro _ rfl
        refine withPreds_cons rfl rfl ?_
        rintro _ rfl
        refine withPreds_cons rfl rfl ?_
        rintro _ rfl
        refine withPreds_nil rfl ?_
        have hcall := wr_any (ih (wszV (.mk k21 n21 s21 l21)) (by omega)) (Nat.le_refl _) (by omega) hfx (f4 _ (List.mem_of_getElem? hx21)) (by have h9 := wsz_take (l := l) (i + 1); rw [take_snoc hx21, wszL_snoc] at h9; have h8 := encL_wsz (l := l.take i) (fun x hx => f4 x (List.mem_of_mem_take hx)); simp only [List.length_append, List.length_cons, List.length_nil]; omega) hWr hd21 hacco
        refine XO.callVal [_] rfl trivial rfl hcall rfl rfl ?_
        rintro _ HN32 _ hleN32 ⟨p32, a32, c32, rfl, rfl, hacc32⟩
        replace hs := hs.mono hleN32
        replace hWr := hWr.mono hleN32
        replace hsl9 := hsl9.mono hleN32
        replace hacco := hacco.mono hleN32
        replace hp21 := hp21.mono hleN32
        replace hd21 := hd21.mono hleN32
        replace hle0 := hle0.trans hleN32
        refine XO.assign rfl rfl ?_
        refine XO.nil ?_
        refine blockN ?_
        refine XC.seq2 ?_
        refine XC.region ?_
        refine XO.add rfl rfl (wrap_i64 (by omega) (by omega)) rfl ?_
        refine XO.move rfl rfl ?_
        refine XO.nil ?_
        refine loop_next ((i + 1, (p32, a32, c32))) (by show l.length - (i + 1) < l.length - i; omega) (prov_cons (by first | rfl | (rw [take_snoc hx21, encL_snoc, ← List.append_assoc]; rfl)) (prov_cons (rfl) (prov_cons (rfl) (prov_cons (rfl) (prov_cons (rfl) prov_nil))))) (⟨by show i + 1 ≤ l.length; omega, rfl, by first | (exact hacc32) | (rw [take_snoc hx21, encL_snoc, ← List.append_assoc]; exact hacc32)⟩) (by repeat (first | exact List.Sublist.refl _ | apply List.Sublist.cons_cons | apply List.Sublist.cons)) (hle0)
    · obtain rfl : i = l.length := by omega
      rw [List.take_length] at hacco ⊢
      refine XC.exit ?_
      refine seqX_exit ?_
      refine loopX_exit ?_
      refine blockHit rfl ?_
      refine XC.seq2 ?_
      refine XC.seq ?_
      refine XC.region ?_
      refine XO.move rfl rfl ?_
      refine XO.assign rfl rfl ?_
      refine XO.nil ?_
      refine XC.seq2 ?_
      refine XC.ret ?_
      refine ⟨rfl, _, [_], rfl, (by repeat (first | exact List.Sublist.refl _ | apply List.Sublist.cons_cons | apply List.Sublist.cons)), RetR.mk ?_⟩
      rw [encV3, ← List.append_assoc, ← List.append_assoc]
      exact ⟨_, _, _, rfl, rfl, by assumption⟩
theorem write_all {bw b1 : Nat} {k n : Int} {s : List UInt8} {l : List Val} {a : Option Addr} {c : Nat} {po : Nat × SObj} {ao : Option Addr} {co : Nat} {l0 : List UInt8} {H : Hp} (hm : wszV (.mk k n s l) ≤ 1000000) (hf : formedB (.mk k n s l) = true) (hfit : Fit (.mk k n s l)) (hl : l0.length + wszV (.mk k n s l) ≤ 50000000) (hW : WrH H bw b1) (hs : SlR valR H a c l) (hacc : AccB H po ao co l0) :
    FnV Try.prog (wfun b1 k) [.slice ao l0.length co, .agg ⟨[.int .i64 k, .int .i64 n, .string (bsOf s), .slice a l.length c]⟩] H [po] (RetR (fun v H2 own => ∃ po2 a2 c2, own = [po2] ∧ v = .slice a2 (l0 ++ encV (.mk k n s l)).length c2 ∧ AccB H2 po2 a2 c2 (l0 ++ encV (.mk k n s l)))) := wr_any (w3_all bw b1 1000000) hm (Nat.le_refl _) hf hfit hl hW hs hacc

end Go.Proofs

/- The walks of the functions of the codec: what each of them computes, at any input. -/
set_option autoImplicit false
set_option linter.unusedVariables false
set_option linter.unusedSimpArgs false
namespace Go.Proofs
open Go.XL

theorem ze_50 : zeroC Try.prog 50 = some [.pointer none] := by kernel_rfl
theorem ze_66 : zeroC Try.prog 66 = some [.nilFunc, .nilFunc, .nilFunc, .nilFunc] := by kernel_rfl

theorem newWriter_fn (H : Hp) : FnC Try.prog 26 #[] H [] (RetR (fun v H2 _ => ∃ bw b1, v = .pointer (some ⟨bw, 0, none⟩) ∧ WrH H2 bw b1)) := by
  refine FnC.intro (args := []) Try.func26 rfl rfl Try.ntmps26 rfl rfl rfl fun G rest => ?_
  refine XC.seq ?_
  refine XC.region ?_
  refine XO.assign rfl rfl ?_
  refine XO.nil ?_
  refine XC.seq2 ?_
  refine XC.seq ?_
  refine XC.region ?_
  refine XO.buildArr Try.underlying66 ty_49 ze_66 rfl rfl rfl ?_
  refine XO.box rfl rfl rfl (fun b3 => ?_)
  refine XO.alloc ze_50 rfl (fun b1 => ?_)
  refine XO.storeO 0 rfl rfl rfl rfl ty_50 rfl rfl rfl rfl rfl ?_
  refine XO.nil ?_
  refine XC.seq2 ?_
  refine XC.seq ?_
  refine XC.region ?_
  refine XO.loadO 0 rfl rfl ty_50 rfl rfl rfl ?_
  refine XO.nilCheckP rfl rfl ?_
  refine XO.indexArr rfl rfl Try.underlying66 ty_49 (by first | decide | omega) (by first | decide | omega) rfl ?_
  refine XO.fieldAddr rfl fa_49_0 rfl ?_
  refine XO.storeO 1 rfl rfl rfl rfl ty_47 rfl rfl rfl rfl rfl ?_
  refine XO.nil ?_
  refine XC.seq2 ?_
  refine XC.seq ?_
  refine XC.region ?_
  refine XO.loadO 0 rfl rfl ty_50 rfl rfl rfl ?_
  refine XO.nilCheckP rfl rfl ?_
  refine XO.indexArr rfl rfl Try.underlying66 ty_49 (by first | decide | omega) (by first | decide | omega) rfl ?_
  refine XO.fieldAddr rfl fa_49_0 rfl ?_
  refine XO.storeO 1 rfl rfl rfl rfl ty_47 rfl rfl rfl rfl rfl ?_
  refine XO.nil ?_
  refine XC.seq2 ?_
  refine XC.seq ?_
  refine XC.region ?_
  refine XO.loadO 0 rfl rfl ty_50 rfl rfl rfl ?_
  refine XO.makeFunc rfl rfl ?_
  refine XO.nilCheckP rfl rfl ?_
  refine XO.indexArr rfl rfl Try.underlying66 ty_49 (by first | decide | omega) (by first | decide | omega) rfl ?_
  refine XO.fieldAddr rfl fa_49_0 rfl ?_
  refine XO.storeO 1 rfl rfl rfl rfl ty_47 rfl rfl rfl rfl rfl ?_
  refine XO.nil ?_
  refine XC.seq2 ?_
  refine XC.seq ?_
  refine XC.region ?_
  refine XO.loadO 0 rfl rfl ty_50 rfl rfl rfl ?_
  refine XO.assign rfl rfl ?_
  refine XO.publish 0 rfl rfl rfl (fun HK1 oK1 hleK1 hbK1 hoK1 => ?_)
  have hp1 := PtH.of_is hbK1 hoK1
  refine XO.publish 0 rfl rfl rfl (fun HK3 oK3 hleK3 hbK3 hoK3 => ?_)
  have hp3 := PtH.of_is hbK3 hoK3
  replace hp1 := hp1.mono hleK3
  refine XO.nil ?_
  refine XC.seq2 ?_
  refine XC.ret ?_
  refine ⟨rfl, _, [], rfl, (by repeat (first | exact List.Sublist.refl _ | apply List.Sublist.cons)), RetR.mk ?_⟩
  exact ⟨b3, b1, rfl, hp1, pt_at hp3 1 rfl, pt_at hp3 2 rfl, pt_at hp3 3 rfl⟩

end Go.Proofs

/- The walks of the functions of the codec: what each of them computes, at any input. -/
set_option autoImplicit false
set_option linter.unusedVariables false
set_option linter.unusedSimpArgs false
namespace Go.Proofs
open Go.XL



theorem enc_fn (k n : Int) (s : List UInt8) (l : List Val) (a : Option Addr) (c : Nat) (H : Hp) (hw : wszV (.mk k n s l) ≤ 1000000) (hf : Fit (.mk k n s l)) (hs : SlR valR H a c l) : FnC Try.prog 12 #[.agg ⟨[.int .i64 k, .int .i64 n, .string (bsOf s), .slice a l.length c]⟩] H [] (RetR (fun v H2 _ => EncR (.mk k n s l) H2 v)) := by
  refine FnC.intro (args := [.agg ⟨[.int .i64 k, .int .i64 n, .string (bsOf s), .slice a l.length c]⟩]) Try.func12 rfl rfl Try.ntmps12 rfl rfl rfl fun G rest => ?_
  refine XC.seq ?_
  refine XC.region ?_
  refine XO.box rfl rfl rfl (fun b1 => ?_)
  refine XO.assign rfl rfl ?_
  refine XO.assign rfl rfl ?_
  refine XO.nil ?_
  refine XC.seq2 ?_
  refine XC.seq ?_
  refine XC.seq ?_
  refine XC.region ?_
  refine XO.loadO 0 rfl rfl ty_24 rfl rfl rfl ?_
  have hcall := check_fn k n s l a c _ hw hs
  refine XO.callV rfl hcall rfl ?_
  refine XO.assign rfl rfl ?_
  refine XO.nil ?_
  refine XC.seq2 ?_
  refine XC.seq ?_
  refine XC.region ?_
  refine XO.move rfl rfl ?_
  refine XO.neq rfl rfl rfl ?_
  refine XO.nil ?_
  refine XC.seq2 ?_
  refine XC.cond rfl (fun c0_2 => ?_) (fun c0_2 => ?_)
  · have hch : chkV (.mk k n s l) ≠ 0 := c0_2
    refine XC.seq ?_
    refine XC.region ?_
    refine XO.move rfl rfl ?_
    refine XO.assign rfl rfl ?_
    refine XO.assign rfl rfl ?_
    refine XO.nil ?_
    refine XC.seq2 ?_
    refine XC.ret ?_
    refine seqX_ret ?_
    refine ⟨rfl, _, [], rfl, (by repeat (first | exact List.Sublist.refl _ | apply List.Sublist.cons)), RetR.mk ?_⟩
    exact enc_no hch
  · have hch : chkV (.mk k n s l) = 0 := by omega
    refine XC.skip ?_
    refine XC.seq2 ?_
    refine XC.seq ?_
    refine XC.keep [1] rfl ?_
    have hfm := chk0_formed hch
    have hk3 := formed_kind hfm
    apply XC.drawG (fun _ => True) trivial 8 [fun v H => ∃ bw b1, v = .pointer (some ⟨bw, 0, none⟩) ∧ WrH H bw b1, eqF _, eqF _, fun v H => ∃ bw b1, v = .pointer (some ⟨bw, 0, none⟩) ∧ WrH H bw b1, fun v H => ∃ bw b1, v = .pointer (some ⟨bw, 0 + k.toNat * 1, none⟩) ∧ WrH H bw b1, fun v H => ∃ bw b1, v = .pointer (some ⟨bw, 0 + k.toNat * 1 + 0, none⟩) ∧ WrH H bw b1, fun v H => ∃ bw b1, v = wfun b1 k ∧ WrH H bw b1, eqF _] follows (by kernel_rfl) (by kernel_rfl) ⟨fun _ _ _ hle ⟨bw, b1, h1, h2⟩ => ⟨bw, b1, h1, h2.mono hle⟩, eqF_mono _, eqF_mono _, fun _ _ _ hle ⟨bw, b1, h1, h2⟩ => ⟨bw, b1, h1, h2.mono hle⟩, fun _ _ _ hle ⟨bw, b1, h1, h2⟩ => ⟨bw, b1, h1, h2.mono hle⟩, fun _ _ _ hle ⟨bw, b1, h1, h2⟩ => ⟨bw, b1, h1, h2.mono hle⟩, fun _ _ _ hle ⟨bw, b1, h1, h2⟩ => ⟨bw, b1, h1, h2.mono hle⟩, eqF_mono _, trivial⟩ ?steps3 ?tail3
    case steps3 =>
      refine stepsD_cons rfl ?_ ?_
      · intro X HD hleD _
        replace hs := hs.mono hleD
        refine withPreds_nil rfl ?_
        refine XO.callH rfl (newWriter_fn _) rfl ?_
        rintro _ HN10 hleN10 ⟨bw10, b110, rfl, hW10⟩
        replace hs := hs.mono hleN10
        refine XO.nil ?_
        exact stepQ_ok trivial (⟨_, _, rfl, hW10⟩)
      refine stepsD_cons rfl ?_ ?_
      · intro X HD hleD _
        replace hs := hs.mono hleD
        refine withPreds_nil rfl ?_
        refine XO.fieldAddr rfl fa_24_0 rfl ?_
        refine XO.nil ?_
        exact stepQ_ok trivial (rfl)
      refine stepsD_cons rfl ?_ ?_
      · intro X HD hleD _
        replace hs := hs.mono hleD
        refine withPreds_cons rfl rfl ?_
        rintro _ rfl
        refine withPreds_nil rfl ?_
        refine XO.loadO 0 rfl rfl ty_3 rfl rfl rfl ?_
        refine XO.nil ?_
        exact stepQ_ok trivial (rfl)
      refine stepsD_cons rfl ?_ ?_
      · intro X HD hleD _
        replace hs := hs.mono hleD
        refine withPreds_cons rfl rfl ?_
        rintro _ ⟨bw0, b0, rfl, hW0⟩
        refine withPreds_nil rfl ?_
        refine XO.nilCheckP rfl rfl ?_
        refine XO.nil ?_
        exact stepQ_ok trivial (⟨_, _, rfl, hW0⟩)
      refine stepsD_cons rfl ?_ ?_
      · intro X HD hleD _
        replace hs := hs.mono hleD
        refine withPreds_cons rfl rfl ?_
        rintro _ ⟨bw3, b3, rfl, hW3⟩
        refine withPreds_cons rfl rfl ?_
        rintro _ rfl
        refine withPreds_nil rfl ?_
        refine XO.indexArr rfl rfl Try.underlying66 ty_49 (by omega) (by omega) rfl ?_
        refine XO.nil ?_
        exact stepQ_ok trivial (⟨_, _, rfl, hW3⟩)
      refine stepsD_cons rfl ?_ ?_
      · intro X HD hleD _
        replace hs := hs.mono hleD
        refine withPreds_cons rfl rfl ?_
        rintro _ ⟨bw4, b4, rfl, hW4⟩
        refine withPreds_nil rfl ?_
        refine XO.fieldAddr rfl fa_49_0 rfl ?_
        refine XO.nil ?_
        exact stepQ_ok trivial (⟨_, _, rfl, hW4⟩)
      refine stepsD_cons rfl ?_ ?_
      · intro X HD hleD _
        replace hs := hs.mono hleD
        refine withPreds_cons rfl rfl ?_
        rintro _ ⟨bw5, b5, rfl, hW5⟩
        refine withPreds_nil rfl ?_
        have hWa := hW5.at hk3
        refine XO.loadHF rfl hWa ty_47 rfl rfl rfl ?_
        refine XO.nil ?_
        exact stepQ_ok trivial (⟨_, _, rfl, hW5⟩)
      refine stepsD_cons rfl ?_ ?_
      · intro X HD hleD _
        replace hs := hs.mono hleD
        refine withPreds_nil rfl ?_
        refine XO.loadO 0 rfl rfl ty_24 rfl rfl rfl ?_
        refine XO.nil ?_
        exact stepQ_ok trivial (rfl)
      exact stepsD_end rfl
    case tail3 =>
      intro HD hleD _
      replace hs := hs.mono hleD
      refine withPreds_cons rfl rfl ?_
      rintro _ ⟨bw0, b0, rfl, hW0⟩
      refine withPreds_cons rfl rfl ?_
      rintro _ rfl
      refine withPreds_cons rfl rfl ?_
      rintro _ rfl
      refine withPreds_cons rfl rfl ?_
      rintro _ ⟨bw3, b3, rfl, hW3⟩
      refine withPreds_cons rfl rfl ?_
      rintro _ ⟨bw4, b4, rfl, hW4⟩
      refine withPreds_cons rfl rfl ?_
      rintro _ ⟨bw5, b5, rfl, hW5⟩
      refine withPreds_cons rfl rfl ?_
      rintro _ ⟨bw6, b6, rfl, hW6⟩
      refine withPreds_cons rfl rfl ?_
      rintro _ rfl
      refine withPreds_nil rfl ?_
      refine XO.open0 (σ := []) (fun b0 => ?_)
      have hcall := write_all (l0 := []) hw hfm hf (by simp; omega) hW6 hs (Acc.nil u8R 5 _ b0)
      refine XO.callVal (ownF := [(b0, .nothing)]) [] rfl trivial rfl hcall rfl rfl ?_
      rintro _ HN18 _ hleN18 ⟨p18, a18, c18, rfl, rfl, hacc18⟩
      replace hs := hs.mono hleN18
      refine XO.publishA 0 rfl hacc18 rfl (fun HQ18 hleQ18 hsQ18 => ?_)
      replace hs := hs.mono hleQ18
      refine XO.assign rfl rfl ?_
      refine XO.assign rfl rfl ?_
      refine XO.nil ?_
      refine XC.seq2 ?_
      refine XC.ret ?_
      refine ⟨rfl, _, [], rfl, (by repeat (first | exact List.Sublist.refl _ | apply List.Sublist.cons)), RetR.mk ?_⟩
      exact enc_yes hch hsQ18

theorem size_fn (k n : Int) (s : List UInt8) (l : List Val) (a : Option Addr) (c : Nat) (H : Hp) (hw : wszV (.mk k n s l) ≤ 1000000) (hf : Fit (.mk k n s l)) (hs : SlR valR H a c l) : FnC Try.prog 14 #[.agg ⟨[.int .i64 k, .int .i64 n, .string (bsOf s), .slice a l.length c]⟩] H [] (RetR (fun v H2 _ => v = .tuple #[.int .i64 ((eB (.mk k n s l)).length : Nat), .int .i64 (chkV (.mk k n s l))])) := by
  refine FnC.intro (args := [.agg ⟨[.int .i64 k, .int .i64 n, .string (bsOf s), .slice a l.length c]⟩]) Try.func14 rfl rfl Try.ntmps14 rfl rfl rfl fun G rest => ?_
  refine XC.seq ?_
  refine XC.region ?_
  refine XO.box rfl rfl rfl (fun b1 => ?_)
  refine XO.assign rfl rfl ?_
  refine XO.assign rfl rfl ?_
  refine XO.nil ?_
  refine XC.seq2 ?_
  refine XC.seq ?_
  refine XC.region ?_
  refine XO.loadO 0 rfl rfl ty_24 rfl rfl rfl ?_
  have hcall := enc_fn k n s l a c _ hw hf hs
  refine XO.callH rfl hcall rfl ?_
  rintro _ HN7 hleN7 ⟨aN7, cN7, hN7, rfl⟩
  replace hs := hs.mono hleN7
  refine XO.move rfl rfl ?_
  refine XO.extract rfl rfl rfl ?_
  refine XO.extract rfl rfl rfl ?_
  refine XO.assign rfl rfl ?_
  refine XO.assign rfl rfl ?_
  refine XO.nil ?_
  refine XC.seq2 ?_
  refine XC.seq ?_
  refine XC.region ?_
  refine XO.move rfl rfl ?_
  refine XO.lenS (ts := #[]) rfl Try.underlying27 rfl ?_
  refine XO.move rfl rfl ?_
  refine XO.assign rfl rfl ?_
  refine XO.assign rfl rfl ?_
  refine XO.nil ?_
  refine XC.seq2 ?_
  refine XC.ret ?_
  refine ⟨rfl, _, [], rfl, (by repeat (first | exact List.Sublist.refl _ | apply List.Sublist.cons)), RetR.mk ?_⟩
  rfl

end Go.Proofs

/- The walks of the functions of the codec: what each of them computes, at any input. -/
set_option autoImplicit false
set_option linter.unusedVariables false
set_option linter.unusedSimpArgs false
namespace Go.Proofs
open Go.XL



theorem renc_all : ∀ (m : Nat) (k n : Int) (s : List UInt8) (l : List Val) (a : Option Addr) (c : Nat) (H : Hp), wszV (.mk k n s l) ≤ m → m ≤ 1000000 → Fit (.mk k n s l) → SlR valR H a c l → FnC Try.prog 27 #[.agg ⟨[.int .i64 k, .int .i64 n, .string (bsOf s), .slice a l.length c]⟩] H [] (RetR (fun v H2 _ => ∃ a c, v = .slice a (encV (.mk k n s l)).length c ∧ SlR u8R H2 a c (encV (.mk k n s l)))) := by
  intro m
  refine Nat.strongRecOn m ?_
  clear m
  intro m ih k n s l a c H hw hm hfit hs
  have hwe := enc_wsz _ hfit
  obtain ⟨f1, f2, f3, f4⟩ := hfit.of
  have hwl := wsz_len (l := l)
  have hnl := numL_10 (u := l.length) (by omega)
  have hns := numL_10 (u := s.length) (by omega)
  have hnu := numL_10 (u := unsV n) (uns_lt2 f1)
  have hnu0 := uns_lt2 f1
  rw [wszV] at hw hwe
  refine FnC.intro (args := [.agg ⟨[.int .i64 k, .int .i64 n, .string (bsOf s), .slice a l.length c]⟩]) Try.func27 rfl rfl Try.ntmps27 rfl rfl rfl fun G rest => ?_
  refine XC.seq ?_
  refine XC.region ?_
  refine XO.box rfl rfl rfl (fun b1 => ?_)
  refine XO.assign rfl rfl ?_
  refine XO.nil ?_
  refine XC.seq2 ?_
  refine XC.seq ?_
  refine XC.seq ?_
  refine XC.region ?_
  refine XO.fieldAddr rfl fa_24_0 rfl ?_
  refine XO.loadO 0 rfl rfl ty_3 rfl rfl rfl ?_
  refine XO.nil ?_
  refine XC.seq2 ?_
  refine XC.block ?_
  refine XC.seq ?_
  refine XC.region ?_
  refine XO.eql rfl rfl rfl ?_
  refine XO.assign rfl rfl ?_
  refine XO.nil ?_
  refine XC.seq2 ?_
  refine XC.cond rfl (fun c0_1 => ?_) (fun c0_1 => ?_)
  · obtain rfl : k = 1 := by omega
    refine XC.seq ?_
    refine XC.region ?_
    refine XO.buildRow (ρ := u8R) (l := [1]) rfl Try.underlying27 ty_5 ze_5 rfl rfl rfl (RowsR.one1 rfl) rfl (fun p9 a9 c9 hacc9 => ?_)
    refine XO.fieldAddr rfl fa_24_1 rfl ?_
    refine XO.loadO 1 rfl rfl ty_3 rfl rfl rfl ?_
    refine XO.callV rfl (runs_fn n f1 _) rfl ?_
    refine XO.callH rfl (rnum_all _ _ (by omega)) rfl ?_
    rintro _ HN13 hleN13 ⟨aN13, cN13, rfl, hN13⟩
    replace hs := hs.mono hleN13
    replace hacc9 := hacc9.mono hleN13
    refine XO.appendA 0 rfl rfl hacc9 rfl rfl hN13 rfl Try.underlying27 ty_5 ze_5 rfl by_5 (by simp; omega) rfl (fun p14 a14 c14 hacc14 => ?_)
    refine XO.publishA 0 rfl hacc14 rfl (fun HQ5 hleQ5 hsQ5 => ?_)
    replace hs := hs.mono hleQ5
    replace hN13 := hN13.mono hleQ5
    refine XO.assign rfl rfl ?_
    refine XO.nil ?_
    refine XC.seq2 ?_
    refine XC.ret ?_
    refine blockR ?_
    refine seqX_ret ?_
    refine ⟨rfl, _, [], rfl, (by repeat (first | exact List.Sublist.refl _ | apply List.Sublist.cons)), RetR.mk ?_⟩
    rw [encV1]
    exact ⟨_, _, rfl, by assumption⟩
  · refine XC.seq ?_
    refine XC.region ?_
    refine XO.eql rfl rfl rfl ?_
    refine XO.assign rfl rfl ?_
    refine XO.nil ?_
    refine XC.seq2 ?_
    refine XC.cond rfl (fun c1_6 => ?_) (fun c1_6 => ?_)
    · obtain rfl : k = 2 := by omega
      refine XC.seq ?_
      refine XC.keep [1] rfl ?_
      refine XC.open0 0 ?_
      apply XC.drawQ (fun _ => True) trivial [0, 6] (FOl (fun j => [[], [2], [2] ++ numL s.length].getD j []) none 0) (FOl_mono _ _ _) 9 [anyF, eqF _, eqF _, eqF _, eqF _, fun v H => ∃ a c, v = .slice a (numL s.length).length c ∧ SlR u8R H a c (numL s.length), anyF, eqF _, eqF _] follows (by kernel_rfl) ⟨anyF_mono, eqF_mono _, eqF_mono _, eqF_mono _, eqF_mono _, fun _ _ _ hle ⟨a, c, h1, h2⟩ => ⟨a, c, h1, h2.mono hle⟩, anyF_mono, eqF_mono _, eqF_mono _, trivial⟩ (by kernel_rfl) (FOl_0 (Acc.nil _ _ _ _)) ?steps7 ?tail7
      case steps7 =>
        refine stepsQ_cons rfl ?_ ?_
        · intro X e HD hleD _
          replace hs := hs.mono hleD
          refine withP_nil rfl ?_
          intro hfa
          skip
          refine XO.buildRow (ρ := u8R) (l := [2]) rfl Try.underlying27 ty_5 ze_5 rfl rfl rfl (RowsR.one1 rfl) rfl (fun p17 a17 c17 hacc17 => ?_)
          refine XO.lose (.cons_cons _ (.cons _ (.refl _))) ?_
          refine XO.nil ?_
          exact stepQV_ok trivial (trivial) (foQ_mod rfl (by exact FOl_s hacc17))
        refine stepsQ_cons rfl ?_ ?_
        · intro X e HD hleD _
          replace hs := hs.mono hleD
          refine withP_nil rfl ?_
          intro hfa
          refine XO.fieldAddr rfl fa_24_2 rfl ?_
          refine XO.nil ?_
          exact stepQV_ok trivial (rfl) (foQ_no rfl)
        refine stepsQ_cons rfl ?_ ?_
        · intro X e HD hleD _
          replace hs := hs.mono hleD
          refine withP_cons rfl rfl ?_
          rintro _ rfl
          refine withP_nil rfl ?_
          intro hfa
          refine XO.loadO 1 rfl rfl ty_9 rfl rfl rfl ?_
          refine XO.nil ?_
          exact stepQV_ok trivial (rfl) (foQ_no rfl)
        refine stepsQ_cons rfl ?_ ?_
        · intro X e HD hleD _
          replace hs := hs.mono hleD
          refine withP_cons rfl rfl ?_
          rintro _ rfl
          refine withP_nil rfl ?_
          intro hfa
          refine XO.lenStr rfl Try.underlying9 (by omega) rfl ?_
          refine XO.nil ?_
          exact stepQV_ok trivial (rfl) (foQ_no rfl)
        refine stepsQ_cons rfl ?_ ?_
        · intro X e HD hleD _
          replace hs := hs.mono hleD
          refine withP_cons rfl rfl ?_
          rintro _ rfl
          refine withP_nil rfl ?_
          intro hfa
          refine XO.convI (c := ((s.length : Nat) : Int)) rfl Try.underlying3 Try.underlying68 (wrap_u64 (by omega) (by omega)) rfl ?_
          refine XO.nil ?_
          exact stepQV_ok trivial (rfl) (foQ_no rfl)
        refine stepsQ_cons rfl ?_ ?_
        · intro X e HD hleD _
          replace hs := hs.mono hleD
          refine withP_cons rfl rfl ?_
          rintro _ rfl
          refine withP_nil rfl ?_
          intro hfa
          refine XO.callH rfl (rnum_all _ _ (by omega)) rfl ?_
          rintro _ HN22 hleN22 ⟨aN22, cN22, rfl, hN22⟩
          replace hs := hs.mono hleN22
          refine XO.nil ?_
          exact stepQV_ok trivial (⟨_, _, rfl, hN22⟩) (foQ_no rfl)
        refine stepsQ_cons rfl ?_ ?_
        · intro X e HD hleD _
          replace hs := hs.mono hleD
          refine withP_cons rfl rfl ?_
          rintro _ _
          refine withP_cons rfl rfl ?_
          rintro _ ⟨a22, c22, rfl, h22⟩
          refine withP_nil rfl ?_
          intro hfa
          have hfb := factQ_s rfl hfa rfl rfl
          obtain ⟨a17, c17, hv17, hfa0⟩ := hfb.2 (by decide)
          subst hv17
          refine XO.appendA 0 rfl rfl hfa0 rfl rfl h22 rfl Try.underlying27 ty_5 ze_5 rfl by_5 (by simp; omega) rfl (fun p23 a23 c23 hacc23 => ?_)
          refine XO.nil ?_
          exact stepQV_ok trivial (trivial) (foQ_mod rfl (by exact FOl_s hacc23))
        refine stepsQ_cons rfl ?_ ?_
        · intro X e HD hleD _
          replace hs := hs.mono hleD
          refine withP_nil rfl ?_
          intro hfa
          refine XO.fieldAddr rfl fa_24_2 rfl ?_
          refine XO.nil ?_
          exact stepQV_ok trivial (rfl) (foQ_no rfl)
        refine stepsQ_cons rfl ?_ ?_
        · intro X e HD hleD _
          replace hs := hs.mono hleD
          refine withP_cons rfl rfl ?_
          rintro _ rfl
          refine withP_nil rfl ?_
          intro hfa
          refine XO.loadO 1 rfl rfl ty_9 rfl rfl rfl ?_
          refine XO.nil ?_
          exact stepQV_ok trivial (rfl) (foQ_no rfl)
        exact stepsQ_end rfl
      case tail7 =>
        intro HD hleD _
        replace hs := hs.mono hleD
        refine withP_cons rfl rfl ?_
        rintro _ _
        refine withP_cons rfl rfl ?_
        rintro _ rfl
        refine withP_cons rfl rfl ?_
        rintro _ rfl
        refine withP_cons rfl rfl ?_
        rintro _ rfl
        refine withP_cons rfl rfl ?_
        rintro _ rfl
        refine withP_cons rfl rfl ?_
        rintro _ ⟨a22, c22, rfl, h22⟩
        refine withP_cons rfl rfl ?_
        rintro _ _
        refine withP_cons rfl rfl ?_
        rintro _ rfl
        refine withP_cons rfl rfl ?_
        rintro _ rfl
        refine withP_nil rfl ?_
        intro e he
        have hfb := lastQ_s rfl he rfl rfl
        obtain ⟨a23, c23, hv23, hacc23⟩ := hfb.2 (by decide)
        subst hv23
        refine XO.appendS 0 rfl rfl hacc23 rfl rfl Try.underlying27 Try.underlying9 ty_5 ze_5 rfl by_5 (by simp; omega) rfl (fun p26 a26 c26 hacc26 => ?_)
        refine XO.publishA 0 rfl hacc26 rfl (fun HQ12 hleQ12 hsQ12 => ?_)
        replace hs := hs.mono hleQ12
        refine XO.assign rfl rfl ?_
        refine XO.nil ?_
        refine XC.seq2 ?_
        refine XC.ret ?_
        refine blockR ?_
        refine seqX_ret ?_
        refine ⟨rfl, _, [], rfl, (by repeat (first | exact List.Sublist.refl _ | apply List.Sublist.cons)), RetR.mk ?_⟩
        rw [encV2]
        exact ⟨_, _, rfl, by assumption⟩
    · refine XC.skip ?_
      refine blockN ?_
      refine XC.seq2 ?_
      refine XC.seq ?_
      refine XC.region ?_
      refine XO.buildRow (ρ := u8R) (l := [3]) rfl Try.underlying27 ty_5 ze_5 rfl rfl rfl (RowsR.one1 rfl) rfl (fun p27 a27 c27 hacc27 => ?_)
      refine XO.fieldAddr rfl fa_24_3 rfl ?_
      refine XO.loadO 1 rfl rfl ty_22 rfl rfl rfl ?_
      refine XO.lenS (ts := #[]) rfl Try.underlying22 rfl ?_
      refine XO.convI (c := ((l.length : Nat) : Int)) rfl Try.underlying3 Try.underlying68 (wrap_u64 (by omega) (by omega)) rfl ?_
      refine XO.callH rfl (rnum_all _ _ (by omega)) rfl ?_
      rintro _ HN32 hleN32 ⟨aN32, cN32, rfl, hN32⟩
      replace hs := hs.mono hleN32
      replace hacc27 := hacc27.mono hleN32
      refine XO.appendA 0 rfl rfl hacc27 rfl rfl hN32 rfl Try.underlying27 ty_5 ze_5 rfl by_5 (by simp; omega) rfl (fun p33 a33 c33 hacc33 => ?_)
      refine XO.assign rfl rfl ?_
      refine XO.nil ?_
      refine XC.seq2 ?_
      refine XC.seq ?_
      refine XC.seq ?_
      refine XC.region ?_
      refine XO.assign rfl rfl ?_
      refine XO.nil ?_
      refine XC.seq2 ?_
      refine XC.block ?_
      refine XC.keep [3, 4, 1] rfl ?_
      refine XC.loop (base := [(1, _)]) (fun ζ : Nat × ((Nat × SObj) × Option Addr × Nat) => [(3, .slice ζ.2.2.1 (([3] ++ numL l.length) ++ encL (l.take (ζ.1))).length ζ.2.2.2), (4, .int .i64 (ζ.1 : Nat))]) (fun ζ Hl own => ζ.1 ≤ l.length ∧ ζ.2.1 :: (b1, .cells 24 [.int .i64 k, .int .i64 n, .string (bsOf s), .slice a l.length c]) :: rest = own ∧ Acc u8R 5 Hl ζ.2.1 ζ.2.2.1 ζ.2.2.2 (([3] ++ numL l.length) ++ encL (l.take (ζ.1)))) (fun ζ => l.length - ζ.1) (0, (p33, a33, c33)) (prov_cons (by show _ = some (Value.slice _ (_ ++ encL (l.take 0)).length _); rw [show encL (l.take 0) = [] from rfl, List.append_nil]; rfl) (prov_cons (rfl) (prov_cons (rfl) prov_nil))) (by repeat (first | exact List.Sublist.refl _ | apply List.Sublist.cons_cons | apply List.Sublist.cons)) ⟨Nat.zero_le _, rfl, (by rw [show encL (l.take 0) = [] from rfl, List.append_nil]; exact hacc33)⟩ ?_
      rintro ⟨i, ⟨po, ao, co⟩⟩ Hl0 _ hle0 ⟨hki, rfl, hacco⟩
      replace hs := hs.mono hle0
      replace hN32 := hN32.mono hle0
      try dsimp only at hki hacco ⊢
      refine XC.seq ?_
      refine XC.seq ?_
      refine XC.region ?_
      refine XO.move rfl rfl ?_
      refine XO.fieldAddr rfl fa_24_3 rfl ?_
      refine XO.loadO 1 rfl rfl ty_22 rfl rfl rfl ?_
      refine XO.lenS (ts := #[]) rfl Try.underlying22 rfl ?_
      refine XO.lss rfl rfl rfl ?_
      refine XO.nil ?_
      refine XC.seq2 ?_
      refine XC.cond rfl (fun c2_16 => ?_) (fun c2_16 => ?_)
      · refine XC.skip ?_
        refine XC.seq2 ?_
        refine XC.seq ?_
        refine XC.block ?_
        refine XC.region ?_
        refine XO.move rfl rfl ?_
        refine XO.fieldAddr rfl fa_24_3 rfl ?_
        refine XO.loadO 1 rfl rfl ty_22 rfl rfl rfl ?_
        refine XO.move rfl rfl ?_
        refine XO.indexN rfl hs rfl Try.underlying22 ty_24 (by omega) rfl ?_
        rintro eb45 eo45 _ x45 hx45 hR45 hp45
        obtain ⟨k45, n45, s45, l45⟩ := x45
        obtain ⟨a45, c45, rfl, hd45⟩ := valR_iff.1 hR45
        refine XO.loadH rfl (by assumption) ty_24 rfl rfl rfl ?_
        have hwx := wsz_mem (List.mem_of_getElem? hx45)
        have h7 := wsz_take (l := l) (i + 1)
        rw [take_snoc hx45, wszL_snoc] at h7
        have h8 := encL_wsz (l := l.take i) (fun x hx => f4 x (List.mem_of_mem_take hx))
        have h9 := enc_wsz _ (f4 _ (List.mem_of_getElem? hx45))
        have hcall := ih (wszV (.mk k45 n45 s45 l45)) (by omega) k45 n45 s45 l45 a45 c45 _ (Nat.le_refl _) (by omega) (f4 _ (List.mem_of_getElem? hx45)) hd45
        refine XO.callH rfl hcall rfl ?_
        rintro _ HN47 hleN47 ⟨aN47, cN47, rfl, hN47⟩
        replace hs := hs.mono hleN47
        replace hN32 := hN32.mono hleN47
        replace hacco := hacco.mono hleN47
        replace hp45 := hp45.mono hleN47
        replace hd45 := hd45.mono hleN47
        replace hle0 := hle0.trans hleN47
        refine XO.appendA 0 rfl rfl hacco rfl rfl hN47 rfl Try.underlying27 ty_5 ze_5 rfl by_5 (by simp only [List.length_append, List.length_cons, List.length_nil]; omega) rfl (fun p48 a48 c48 hacc48 => ?_)
        refine XO.assign rfl rfl ?_
        refine XO.nil ?_
        refine blockN ?_
        refine XC.seq2 ?_
        refine XC.region ?_
        refine XO.move rfl rfl ?_
        refine XO.add rfl rfl (wrap_i64 (by omega) (by omega)) rfl ?_
        refine XO.assign rfl rfl ?_
        refine XO.nil ?_
        refine loop_next ((i + 1, (p48, a48, c48))) (by show l.length - (i + 1) < l.length - i; omega) (prov_cons (by first | rfl | (rw [take_snoc hx45, encL_snoc, ← List.append_assoc]; rfl)) (prov_cons (rfl) (prov_cons (rfl) prov_nil))) (⟨by show i + 1 ≤ l.length; omega, rfl, by first | (exact hacc48) | (rw [take_snoc hx45, encL_snoc, ← List.append_assoc]; exact hacc48)⟩) (by repeat (first | exact List.Sublist.refl _ | apply List.Sublist.cons_cons | apply List.Sublist.cons)) (hle0)
      · obtain rfl : i = l.length := by omega
        rw [List.take_length] at hacco ⊢
        refine XC.exit ?_
        refine seqX_exit ?_
        refine loopX_exit ?_
        refine blockHit rfl ?_
        refine XC.seq2 ?_
        refine XC.seq ?_
        refine XC.region ?_
        refine XO.move rfl rfl ?_
        refine XO.publishA 0 rfl hacco rfl (fun HQ20 hleQ20 hsQ20 => ?_)
        replace hs := hs.mono hleQ20
        replace hN32 := hN32.mono hleQ20
        replace hle0 := hle0.trans hleQ20
        refine XO.assign rfl rfl ?_
        refine XO.nil ?_
        refine XC.seq2 ?_
        refine XC.ret ?_
        refine ⟨rfl, _, [], rfl, (by repeat (first | exact List.Sublist.refl _ | apply List.Sublist.cons)), RetR.mk ?_⟩
        rw [encV, if_neg (by omega), if_neg (by omega)]
        exact ⟨_, _, rfl, by assumption⟩

theorem renc_fn (k n : Int) (s : List UInt8) (l : List Val) (a : Option Addr) (c : Nat) (H : Hp) (hw : wszV (.mk k n s l) ≤ 1000000) (hf : Fit (.mk k n s l)) (hs : SlR valR H a c l) : FnC Try.prog 13 #[.agg ⟨[.int .i64 k, .int .i64 n, .string (bsOf s), .slice a l.length c]⟩] H [] (RetR (fun v H2 _ => EncR (.mk k n s l) H2 v)) := by
  refine FnC.intro (args := [.agg ⟨[.int .i64 k, .int .i64 n, .string (bsOf s), .slice a l.length c]⟩]) Try.func13 rfl rfl Try.ntmps13 rfl rfl rfl fun G rest => ?_
  refine XC.seq ?_
  refine XC.region ?_
  refine XO.box rfl rfl rfl (fun b1 => ?_)
  refine XO.assign rfl rfl ?_
  refine XO.assign rfl rfl ?_
  refine XO.nil ?_
  refine XC.seq2 ?_
  refine XC.seq ?_
  refine XC.region ?_
  refine XO.loadO 0 rfl rfl ty_24 rfl rfl rfl ?_
  have hcall := rcheck_fn k n s l a c _ hw hs
  refine XO.callV rfl hcall rfl ?_
  refine XO.assign rfl rfl ?_
  refine XO.nil ?_
  refine XC.seq2 ?_
  refine XC.seq ?_
  refine XC.seq ?_
  refine XC.region ?_
  refine XO.move rfl rfl ?_
  refine XO.neq rfl rfl rfl ?_
  refine XO.nil ?_
  refine XC.seq2 ?_
  refine XC.cond rfl (fun c0_2 => ?_) (fun c0_2 => ?_)
  · have hch : chkV (.mk k n s l) ≠ 0 := c0_2
    refine XC.seq ?_
    refine XC.region ?_
    refine XO.move rfl rfl ?_
    refine XO.assign rfl rfl ?_
    refine XO.assign rfl rfl ?_
    refine XO.nil ?_
    refine XC.seq2 ?_
    refine XC.ret ?_
    refine seqX_ret ?_
    refine ⟨rfl, _, [], rfl, (by repeat (first | exact List.Sublist.refl _ | apply List.Sublist.cons)), RetR.mk ?_⟩
    exact enc_no hch
  · have hch : chkV (.mk k n s l) = 0 := by omega
    refine XC.skip ?_
    refine XC.seq2 ?_
    refine XC.seq ?_
    refine XC.region ?_
    refine XO.loadO 0 rfl rfl ty_24 rfl rfl rfl ?_
    have hcall := renc_all 1000000 k n s l a c _ hw (by omega) hf hs
    refine XO.callH rfl hcall rfl ?_
    rintro _ HN11 hleN11 ⟨aN11, cN11, rfl, hN11⟩
    replace hs := hs.mono hleN11
    refine XO.assign rfl rfl ?_
    refine XO.assign rfl rfl ?_
    refine XO.nil ?_
    refine XC.seq2 ?_
    refine XC.ret ?_
    refine ⟨rfl, _, [], rfl, (by repeat (first | exact List.Sublist.refl _ | apply List.Sublist.cons)), RetR.mk ?_⟩
    exact enc_yes hch hN11

theorem rsize_fn (k n : Int) (s : List UInt8) (l : List Val) (a : Option Addr) (c : Nat) (H : Hp) (hw : wszV (.mk k n s l) ≤ 1000000) (hf : Fit (.mk k n s l)) (hs : SlR valR H a c l) : FnC Try.prog 15 #[.agg ⟨[.int .i64 k, .int .i64 n, .string (bsOf s), .slice a l.length c]⟩] H [] (RetR (fun v H2 _ => v = .tuple #[.int .i64 ((eB (.mk k n s l)).length : Nat), .int .i64 (chkV (.mk k n s l))])) := by
  refine FnC.intro (args := [.agg ⟨[.int .i64 k, .int .i64 n, .string (bsOf s), .slice a l.length c]⟩]) Try.func15 rfl rfl Try.ntmps15 rfl rfl rfl fun G rest => ?_
  refine XC.seq ?_
  refine XC.region ?_
  refine XO.box rfl rfl rfl (fun b1 => ?_)
  refine XO.assign rfl rfl ?_
  refine XO.assign rfl rfl ?_
  refine XO.nil ?_
  refine XC.seq2 ?_
  refine XC.seq ?_
  refine XC.region ?_
  refine XO.loadO 0 rfl rfl ty_24 rfl rfl rfl ?_
  have hcall := renc_fn k n s l a c _ hw hf hs
  refine XO.callH rfl hcall rfl ?_
  rintro _ HN8 hleN8 ⟨aN8, cN8, hN8, rfl⟩
  replace hs := hs.mono hleN8
  refine XO.move rfl rfl ?_
  refine XO.extract rfl rfl rfl ?_
  refine XO.extract rfl rfl rfl ?_
  refine XO.assign rfl rfl ?_
  refine XO.assign rfl rfl ?_
  refine XO.nil ?_
  refine XC.seq2 ?_
  refine XC.seq ?_
  refine XC.region ?_
  refine XO.move rfl rfl ?_
  refine XO.lenS (ts := #[]) rfl Try.underlying27 rfl ?_
  refine XO.move rfl rfl ?_
  refine XO.assign rfl rfl ?_
  refine XO.assign rfl rfl ?_
  refine XO.nil ?_
  refine XC.seq2 ?_
  refine XC.ret ?_
  refine ⟨rfl, _, [], rfl, (by repeat (first | exact List.Sublist.refl _ | apply List.Sublist.cons)), RetR.mk ?_⟩
  rfl

end Go.Proofs

/- Drawn regions in which one block is changed by several operations, and an operation may panic. No statement of the program stands here. -/
set_option autoImplicit false
set_option linter.unusedSimpArgs false
set_option linter.unusedVariables false
namespace Go.XL
def stepQP (Pn : List PanicEntry → St → Prop) (Gd : Hp → Prop) (dst : Option Tmp) (f : Value → Hp → Prop) (fo : Value → Nat × SObj → Hp → Prop) (env : Env) (df : List Deferred) (own : Own) : Exit → St → Prop
  | .normal, σ => Gd σ.H ∧ σ.df = df ∧ ∃ v e, σ.env = putE dst v env ∧ f v σ.H ∧ σ.own = e :: own ∧ fo v e σ.H
  | .panic ch, σ => Pn ch σ
  | _, _ => False
theorem stepQP_ok {Pn : List PanicEntry → St → Prop} {Gd : Hp → Prop} {dst : Option Tmp} {f : Value → Hp → Prop} {fo : Value → Nat × SObj → Hp → Prop} {env : Env} {df : List Deferred} {own : Own} {H : Hp} {v : Value} {e : Nat × SObj} (hG : Gd H) (hf : f v H) (hfo : fo v e H) :
    stepQP Pn Gd dst f fo env df own .normal ⟨putE dst v env, df, H, e :: own⟩ := ⟨hG, rfl, v, e, rfl, hf, rfl, hfo⟩
def stepsP (Pn : List PanicEntry → St → Prop) (Gd : Hp → Prop) (mods : List Nat) (FO : Nat → Value → Nat × SObj → Hp → Prop) (C : Ctx) (l : List Oper) (F : List (Value → Hp → Prop)) (env : Env) (df : List Deferred) (H : Hp) (own : Own) (m : Nat) : Nat → List Oper → Prop
  | _, [] => True
  | k, o :: rest => bif Nat.blt k m then
      (∀ X e H', Le H H' → Gd H' → withP l F H' (predsG o) [] fun acc => factQ l mods FO k acc e H' → XO C l.toArray (stepQP Pn Gd o.dst (factAt F k) (foQ mods k FO e) (acc ++ (env ++ X)) df own) [o] ⟨acc ++ (env ++ X), df, H', e :: own⟩) ∧ stepsP Pn Gd mods FO C l F env df H own m (k + 1) rest
    else True
theorem stepsP_cons {Pn : List PanicEntry → St → Prop} {Gd : Hp → Prop} {mods : List Nat} {FO : Nat → Value → Nat × SObj → Hp → Prop} {C : Ctx} {l : List Oper} {F : List (Value → Hp → Prop)} {env : Env} {df : List Deferred} {H : Hp} {own : Own} {m k : Nat} {o : Oper} {rest : List Oper} (hk : Nat.blt k m = true)
    (h : ∀ X e H', Le H H' → Gd H' → withP l F H' (predsG o) [] fun acc => factQ l mods FO k acc e H' → XO C l.toArray (stepQP Pn Gd o.dst (factAt F k) (foQ mods k FO e) (acc ++ (env ++ X)) df own) [o] ⟨acc ++ (env ++ X), df, H', e :: own⟩) (k2 : stepsP Pn Gd mods FO C l F env df H own m (k + 1) rest) : stepsP Pn Gd mods FO C l F env df H own m k (o :: rest) := by
  rw [stepsP, hk]; exact ⟨h, k2⟩
theorem stepsP_end {Pn : List PanicEntry → St → Prop} {Gd : Hp → Prop} {mods : List Nat} {FO : Nat → Value → Nat × SObj → Hp → Prop} {C : Ctx} {l : List Oper} {F : List (Value → Hp → Prop)} {env : Env} {df : List Deferred} {H : Hp} {own : Own} {m k : Nat} {rest : List Oper} (hk : Nat.blt k m = false) : stepsP Pn Gd mods FO C l F env df H own m k rest := by
  cases rest with
  | nil => trivial
  | cons o r => rw [stepsP, hk]; trivial
section
variable {C : Ctx} {Q : Exit → St → Prop} {env : Env} {df : List Deferred} {H : Hp} {own : Own}
theorem stepsP_at {Pn : List PanicEntry → St → Prop} {Gd : Hp → Prop} {mods : List Nat} {FO : Nat → Value → Nat × SObj → Hp → Prop} {l : List Oper} {F : List (Value → Hp → Prop)} {m : Nat} : ∀ (rest : List Oper) (k : Nat), stepsP Pn Gd mods FO C l F env df H own m k rest → ∀ (i : Nat) (o : Oper), rest[i]? = some o → k + i < m →
    ∀ X e H', Le H H' → Gd H' → withP l F H' (predsG o) [] fun acc => factQ l mods FO (k + i) acc e H' → XO C l.toArray (stepQP Pn Gd o.dst (factAt F (k + i)) (foQ mods (k + i) FO e) (acc ++ (env ++ X)) df own) [o] ⟨acc ++ (env ++ X), df, H', e :: own⟩
  | [], k, _, i, o, hi, _ => by simp at hi
  | x :: rest, k, h, i, o, hi, hlt => by
    simp only [stepsP] at h
    rw [show Nat.blt k m = true by simp; omega] at h
    cases i with
    | zero => simp only [List.getElem?_cons_zero, Option.some.injEq] at hi; subst hi; exact h.1
    | succ i =>
      have := stepsP_at rest (k + 1) h.2 i o (by simpa using hi) (by omega)
      rwa [show k + 1 + i = k + (i + 1) by omega] at this
theorem XC.drawP (Pn : List PanicEntry → St → Prop) (hPn : ∀ ch σ, Le H σ.H → Pn ch σ → Q (.panic ch) σ) (Gd : Hp → Prop) (hG : Gd H) (mods : List Nat) (FO : Nat → Value → Nat × SObj → Hp → Prop) (hFO : ∀ j v p H H', Le H H' → FO j v p H → FO j v p H') {id : Nat} {l : List Oper} (m : Nat) (F : List (Value → Hp → Prop)) (hm : C.P.follows .mixedOrders = true) (hck : drawOkH m l (env.map Prod.fst) = true) (hmono' : monoL F)
    (hch : chainB l m mods = true) {q : Nat × SObj} (hq0 : FO 0 undef q H) (steps : stepsP Pn Gd mods FO C l F env df H own m 0 l)
    (tail : ∀ H', Le H H' → Gd H' → withP l F H' (List.range m) [] fun acc => ∀ e, lastQ l mods FO acc e H' → XO C l.toArray Q (l.drop m) ⟨acc ++ env, df, H', e :: own⟩) : XC C (.region id l.toArray true) Q ⟨env, df, H, q :: own⟩ := by
  have hmono := monoF_of hmono'
  intro a₀ w₀ hr₀
  refine wpIn_region_any hm ?_
  simp only [drawOkH, Bool.and_eq_true, List.all_eq_true, List.mem_range] at hck
  obtain ⟨⟨hml, hck1⟩, hck2⟩ := hck
  have hml := Nat.le_of_ble_eq_true hml
  have hpre : ∀ i, i < m → ∃ o, l[i]? = some o ∧ (∀ t, o.dst = some t → t ∉ env.map Prod.fst ∧ (∀ j, j < m → i ≠ j → dstOf l j ≠ some t)) ∧ (∀ e ∈ o.after, Region.binds .any e = true → e.on < i) ∧ (∀ j ∈ predsG o, j < m ∧ ∃ e ∈ o.after, Region.binds .any e = true ∧ e.on = j) := by
    intro i hi
    have h := hck1 i hi
    split at h
    · rename_i o ho
      simp only [Bool.and_eq_true, List.all_eq_true] at h
      obtain ⟨⟨⟨hnd, hd⟩, haf⟩, hp⟩ := h
      refine ⟨o, ho, ?_, ?_, ?_⟩
      · intro t ht
        rw [ht] at hd
        simp only [Bool.and_eq_true, List.all_eq_true, List.mem_range, Bool.not_eq_true', List.contains_eq_mem, decide_eq_false_iff_not] at hd
        refine ⟨hd.1, fun j hj hne he => ?_⟩
        have := hd.2 j hj
        rw [he] at this
        simp at this
        exact hne this
      · intro e he hb
        have := haf e (by simpa using he)
        simpa [hb] using this
      · intro j hj
        have := hp j hj
        simp only [List.any_eq_true, Bool.and_eq_true] at this
        obtain ⟨h1, e, he, hb, hon⟩ := this
        exact ⟨by simpa using h1, e, by simpa using he, hb, Nat.eq_of_beq_eq_true hon⟩
    · cases h
  have hkey : ∀ i t, i < m → dstOf l i = some t → t ∉ env.map Prod.fst := by
    intro i t hi ht
    obtain ⟨o, ho, hd, _⟩ := hpre i hi
    exact (hd t (by simpa [dstOf, ho] using ht)).1
  have hdis : ∀ i j t, i < m → j < m → dstOf l i = some t → dstOf l j = some t → i = j := by
    intro i j t hi hj ht ht2
    obtain ⟨o, ho, hd, _⟩ := hpre i hi
    by_cases h : i = j
    · exact h
    · exact absurd ht2 ((hd t (by simpa [dstOf, ho] using ht)).2 j hj h)
  have htl : ∀ (i : Nat) (o : Oper), m ≤ i → l[i]? = some o → (∀ j, j < i → waitsB l l.length o j = true) ∧ (∀ e ∈ o.after, Region.binds .any e = true → e.on < i) := by
    intro i o hi ho
    have hlt := (List.getElem?_eq_some_iff.1 ho).1
    have h := hck2 i hlt
    rw [ho] at h
    rw [show Nat.blt i m = false from blt_ge hi] at h
    simp only [Bool.false_or, Bool.and_eq_true, List.all_eq_true, List.mem_range] at h
    refine ⟨fun j hj => h.1 j hj, fun e he hb => ?_⟩
    · have := h.2 e (by simpa using he)
      simpa [hb] using this
  have hdc : ∀ (i : Nat) (o : Oper), l[i]? = some o → ∀ e ∈ o.after, Region.binds .any e = true → e.on < i := by
    intro i o ho
    rcases Nat.lt_or_ge i m with h | h
    · obtain ⟨o2, ho2, _, haf, _⟩ := hpre i h
      rw [ho] at ho2; cases ho2; exact haf
    · exact (htl i o h ho).2
  have main : ∀ (fuel : Nat) (L : Array Bool) (a : Act) (w : World) (val : Nat → Value) (ent : Nat × SObj) (H' : Hp), L.size = l.length → unl l.length L ≤ fuel → Le H H' → Gd H' → (∀ (i : Nat) (o : Oper), l[i]? = some o → lst L i = true → ∀ e ∈ o.after, Region.binds .any e = true → lst L e.on = true) → (∀ j, m ≤ j → lst L j = false) →
      a.tmps.size = C.N → (∀ t v, env.get t = some v → a.tmps.getD t undef = v) → (∃ ms : List Nat, a.defers = ms.map mark ++ df ∧ Ok C.G H' ((ent :: own) ++ (ms.map hid ++ C.hid)) w) → entQ mods FO (lst L) val ent H' →
      (∀ i, i < m → lst L i = true → ∀ t, dstOf l i = some t → a.tmps.getD t undef = val i ∧ factAt F i (val i) H') →
      wpAnyIn (Fr C.r) 0 C.P .any l.toArray (lift C H Q) fuel L a w := by
    intro fuel
    have done : ∀ (fuel : Nat) (L : Array Bool) (a : Act) (w : World) (val : Nat → Value) (ent : Nat × SObj) (H' : Hp), L.size = l.length → unl l.length L ≤ fuel → Le H H' → Gd H' → (∀ j, m ≤ j → lst L j = false) →
        a.tmps.size = C.N → (∀ t v, env.get t = some v → a.tmps.getD t undef = v) → (∃ ms : List Nat, a.defers = ms.map mark ++ df ∧ Ok C.G H' ((ent :: own) ++ (ms.map hid ++ C.hid)) w) → entQ mods FO (lst L) val ent H' →
        (∀ i, i < m → lst L i = true → ∀ t, dstOf l i = some t → a.tmps.getD t undef = val i ∧ factAt F i (val i) H') → (∀ j, j < m → lst L j = true) →
        wpAnyIn (Fr C.r) 0 C.P .any l.toArray (lift C H Q) fuel L a w := by
      intro fuel L a w val ent H' hs hu hle hGd hT hsz henv hok hents hfacts hall
      obtain ⟨acc', hk, hmem⟩ := withP_of (val := val) (List.range m) [] _ (tail H' hle hGd) (fun j hj t ht => (hfacts j (List.mem_range.1 hj) (hall j (List.mem_range.1 hj)) t ht).2)
      have hcount : l.length - m ≤ fuel := by rw [count_tail hml hall hT]; exact hu
      refine drawTail (m := m) htl hdc fuel m L a w (Nat.le_refl _) hs hcount hml ?_ ?_
      · intro j
        rcases Nat.lt_or_ge j m with h | h
        · rw [hall j h]; simp [h]
        · rw [hT j h]; simp; omega
      · have hk2 := hk ent (by
          obtain ⟨j, hj, h1, h2, h3⟩ := hents
          have hjl : j = mods.length := by
            rcases Nat.lt_or_ge j mods.length with h | h
            · have := h2 j (Nat.le_refl _) h
              rw [hall _ (chainB_lt hch h)] at this; cases this
            · omega
          subst hjl
          unfold lastQ
          cases hm : mods.length with
          | zero => rw [hm] at h3; simpa [lastV] using h3
          | succ n =>
            intro t v hdt hg
            rw [hm] at h3
            obtain ⟨j', hj', hdj, rfl⟩ := hmem t v (env_get_mem (by simpa using hg))
            obtain rfl := hdis _ j' t (chainB_lt hch (by omega)) (List.mem_range.1 hj') hdt hdj
            simpa [lastV] using h3)
        refine wpList_mono hle _ _ _ (hk2 a w ⟨hsz, ?_, hok⟩)
        intro t v hg
        simp only [List.append_nil] at hg
        rw [Env.get_append] at hg
        cases hga : Env.get acc' t with
        | none => rw [hga] at hg; exact henv t v (by simpa using hg)
        | some u =>
          rw [hga] at hg; simp at hg; subst hg
          obtain ⟨j, hj, hd, rfl⟩ := hmem t u (get_mem _ _ _ hga)
          have hj := List.mem_range.1 hj
          exact (hfacts j hj (hall j hj) t hd).1
    induction fuel with
    | zero =>
      intro L a w val ent H' hs hu hle hGd hdown hT hsz henv hok hents hfacts
      refine done 0 L a w val ent H' hs hu hle hGd hT hsz henv hok hents hfacts ?_
      intro j hj
      cases hx : lst L j with
      | true => rfl
      | false =>
        have := unl_set (L := L) (i := j) hs (by omega) hx
        omega
    | succ fuel ih =>
      intro L a w val ent H' hs hu hle hGd hdown hT hsz henv hok hents hfacts
      by_cases hall : ∀ j, j < m → lst L j = true
      · exact done (fuel + 1) L a w val ent H' hs hu hle hGd hT hsz henv hok hents hfacts hall
      · constructor
        · intro hnil
          exfalso
          apply hall
          -- the least one that is not listed is ready
          intro j hj
          induction j using Nat.strongRecOn with
          | _ j ihj =>
            cases hx : lst L j with
            | true => rfl
            | false =>
              exfalso
              obtain ⟨o, ho, _, haf, _⟩ := hpre j hj
              have : j ∈ Region.ready .any l.toArray L := by
                rw [mem_ready]
                refine ⟨?_, o, by simpa using ho, fun e he hb => ihj e.on (haf e he hb) (by have := haf e he hb; omega)⟩
                unfold lst at hx
                rw [Array.getD_eq_getD_getElem?, Array.getElem?_eq_getElem (by omega)] at hx ⊢
                simpa using hx
              rw [hnil] at this; cases this
        · intro i hi
          rw [mem_ready] at hi
          obtain ⟨h0, o, ho, hbef⟩ := hi
          have hilt : i < l.length := by simpa using (Array.getElem?_eq_some_iff.1 ho).1
          have hun : lst L i = false := by
            unfold lst
            rw [Array.getD_eq_getD_getElem?, Array.getElem?_eq_getElem (by omega)] at h0 ⊢
            simpa using h0
          have ho' : l[i]? = some o := by simpa using ho
          have him : i < m := by
            rcases Nat.lt_or_ge i m with h | h
            · exact h
            · exfalso
              apply hall
              intro j hj
              exact waits_listed hdown _ o j hbef ((htl i o h ho').1 j (by omega))
          obtain ⟨o2, ho2, hd, haf, hprd⟩ := hpre i him
          rw [ho'] at ho2; cases ho2
          have hdo : dstOf l i = o.dst := by simp [dstOf, ho']
          have hst := stepsP_at l 0 steps i o ho' (by omega)
          simp only [Nat.zero_add] at hst
          -- all that is known of the slots, as one list
          let X : Env := (List.range m).filterMap fun j => if lst L j then (dstOf l j).map fun t => (t, val j) else none
          have hpredF : ∀ j ∈ predsG o, ∀ tj, dstOf l j = some tj → factAt F j (val j) H' := fun j hj tj hdj => by
            obtain ⟨hjm, e, he, hb, hon⟩ := hprd j hj
            have hlj : lst L j = true := by have := hbef e he hb; rw [hon] at this; exact this
            exact (hfacts j hjm hlj tj hdj).2
          have hX : ∀ t v, (t, v) ∈ X → ∃ j, j < m ∧ lst L j = true ∧ dstOf l j = some t ∧ v = val j := by
            intro t v h
            obtain ⟨j, hj, hjj⟩ := List.mem_filterMap.1 h
            split at hjj
            · rename_i hlj
              cases hdj : dstOf l j with
              | none => rw [hdj] at hjj; cases hjj
              | some tj =>
                rw [hdj] at hjj
                simp only [Option.map_some, Option.some.injEq, Prod.mk.injEq] at hjj
                obtain ⟨rfl, rfl⟩ := hjj
                exact ⟨j, List.mem_range.1 hj, hlj, hdj, rfl⟩
            · cases hjj
          have hgets : ∀ acc' : Env, (∀ t v, (t, v) ∈ acc' → ∃ j ∈ predsG o, dstOf l j = some t ∧ v = val j) → ∀ t v, Env.get (acc' ++ (env ++ X)) t = some v → a.tmps.getD t undef = v := by
            intro acc' hmem t v hgv
            rw [Env.get_append, Env.get_append] at hgv
            cases hga : Env.get acc' t with
            | some u =>
              rw [hga] at hgv; simp at hgv; subst hgv
              obtain ⟨j, hj, hdj, rfl⟩ := hmem t u (get_mem _ _ _ hga)
              obtain ⟨hjm, e, he, hb, hon⟩ := hprd j hj
              have hlj : lst L j = true := by have := hbef e he hb; rw [hon] at this; exact this
              exact (hfacts j hjm hlj t hdj).1
            | none =>
              rw [hga] at hgv; simp only [Option.none_or] at hgv
              cases hge : Env.get env t with
              | some u => rw [hge] at hgv; simp at hgv; subst hgv; exact henv t u hge
              | none =>
                rw [hge] at hgv; simp only [Option.none_or] at hgv
                obtain ⟨j, hj, hlj, hdj, rfl⟩ := hX t v (get_mem _ _ _ hgv)
                exact (hfacts j hj hlj t hdj).1
          have hnextG : ∀ (acc' : Env), (∀ t v, (t, v) ∈ acc' → ∃ j ∈ predsG o, dstOf l j = some t ∧ v = val j) → ∀ (a' : Act) (w' : World) (σ' : St) (v : Value) (ent' : Nat × SObj), Rel C σ' a' w' → Le H' σ'.H → Gd σ'.H → σ'.df = df → σ'.env = putE o.dst v (acc' ++ (env ++ X)) → factAt F i v σ'.H →
              (∀ ms : List Nat, Ok C.G σ'.H (σ'.own ++ (ms.map hid ++ C.hid)) w' → Ok C.G σ'.H ((ent' :: own) ++ (ms.map hid ++ C.hid)) w') →
              entQ mods FO (lst (L.setIfInBounds i true)) (fun j => if j = i then v else val j) ent' σ'.H →
              wpAnyIn (Fr C.r) 0 C.P .any l.toArray (lift C H Q) fuel (L.setIfInBounds i true) a' w' := by
            intro acc' hmem a' w' σ' v ent' hr' hle' hGd' hdf' henv' hfv hown' hent'
            refine ih (L.setIfInBounds i true) a' w' (fun j => if j = i then v else val j) ent' σ'.H (by simpa using hs) ?_ (hle.trans hle') hGd' ?_ ?_ hr'.size ?_ ?_ hent' ?_
            · have := unl_set hs hilt hun; omega
            · intro i' o' hi' hl' e he hb
              rw [lst_set (by omega)] at hl' ⊢
              split
              · rfl
              · split at hl'
                · rename_i e1 e2; subst e2; rw [ho'] at hi'; cases hi'; exact hbef e he hb
                · exact hdown i' o' hi' hl' e he hb
            · intro j hj
              rw [lst_set (by omega), if_neg (by omega)]
              exact hT j hj
            · intro t' v' hg'
              refine hr'.get t' v' ?_
              have hin : t' ∈ env.map Prod.fst := List.mem_map.2 ⟨(t', v'), get_mem _ _ _ hg', rfl⟩
              rw [henv', get_putE_ne (fun e => (hd t' e).1 hin), Env.get_append, Env.get_append]
              have : Env.get acc' t' = none := by
                cases hga : Env.get acc' t' with
                | none => rfl
                | some u =>
                  obtain ⟨j, hj, hdj, _⟩ := hmem t' u (get_mem _ _ _ hga)
                  exact absurd hin (hkey j t' (hprd j hj).1 hdj)
              rw [this, hg']; rfl
            · obtain ⟨ms, hd', hok'⟩ := hr'.ok
              exact ⟨ms, by rw [hd', hdf'], hown' ms hok'⟩
            · intro j hj hlj tj htj
              rw [lst_set (by omega)] at hlj
              by_cases hji : j = i
              · subst hji
                rw [hdo] at htj
                simp only [if_true]
                refine ⟨hr'.get tj v ?_, hfv⟩
                rw [henv', htj]; simp [putE, Env.get]
              · rw [if_neg hji] at hlj
                obtain ⟨h1, h2⟩ := hfacts j hj hlj tj htj
                simp only [if_neg hji]
                refine ⟨hr'.get tj (val j) ?_, factAt_mono hmono hle' h2⟩
                rw [henv', get_putE_ne (fun e => hji (hdis j i tj hj him htj (by rw [hdo, e]))), Env.get_append, Env.get_append]
                have hacc : Env.get acc' tj = none ∨ Env.get acc' tj = some (val j) := by
                  cases hga : Env.get acc' tj with
                  | none => exact .inl rfl
                  | some u =>
                    obtain ⟨j', hj', hdj', rfl⟩ := hmem tj u (get_mem _ _ _ hga)
                    obtain rfl := hdis j' j tj (hprd j' hj').1 hj hdj' htj
                    exact .inr rfl
                rcases hacc with hacc | hacc
                · rw [hacc]
                  have henvn : Env.get env tj = none := by
                    cases hge : Env.get env tj with
                    | none => rfl
                    | some u => exact absurd (List.mem_map.2 ⟨(tj, u), get_mem _ _ _ hge, rfl⟩) (hkey j tj hj htj)
                  rw [henvn]
                  simp only [Option.none_or]
                  -- it stands in X, once
                  refine get_uniq X (List.mem_filterMap.2 ⟨j, List.mem_range.2 hj, by simp only [hlj, if_true, htj, Option.map_some]⟩) ?_
                  intro u hu'
                  obtain ⟨j', hj', _, hdj', rfl⟩ := hX tj u hu'
                  obtain rfl := hdis j' j tj hj' hj hdj' htj
                  rfl
                · rw [hacc]; rfl
          have hcase : ∀ (acc' : Env) (own2 : Own) (Q2 : Exit → St → Prop), (∀ e σ, e ≠ .normal → Le H' σ.H → Q2 e σ → Q e σ) → XO C l.toArray Q2 [o] ⟨acc' ++ (env ++ X), df, H', own2⟩ → Rel C ⟨acc' ++ (env ++ X), df, H', own2⟩ a w →
              (∀ a' w', lift C H' Q2 .normal a' w' → wpAnyIn (Fr C.r) 0 C.P .any l.toArray (lift C H Q) fuel (L.setIfInBounds i true) a' w') → wpOpIn (Fr C.r) 0 C.P l.toArray (lift C H Q) i (fun a' w' => wpAnyIn (Fr C.r) 0 C.P .any l.toArray (lift C H Q) fuel (L.setIfInBounds i true) a' w') a w := by
            intro acc' own2 Q2 hno hk hrel hnext
            have hrun := hk a w hrel
            unfold wpOpIn
            rw [ho]
            simp only [wpListIn] at hrun ⊢
            split
            · rename_i hw
              rw [if_pos hw] at hrun
              refine wpInOper_mono hnext ?_ hrun
              rintro e a' w' he ⟨σ', hq1, hq2, hq⟩
              exact ⟨σ', hq1, hle.trans hq2, hno e σ' he hq2 hq⟩
            · rename_i hw
              rw [if_neg hw] at hrun
              exact ⟨hrun.1, hnext _ _ hrun.2⟩
          obtain ⟨acc', hk0, hmem⟩ := withP_of (val := val) (predsG o) [] _ (hst X ent H' hle hGd) hpredF
          have hch2 := chainB_bef hch
          have hrank : ∀ r, mods[r]? = some i → entJ mods (lst L) r := by
            intro r hr
            obtain ⟨j, hj, h1, h2, h3⟩ := hents
            have hrl : r < mods.length := (List.getElem?_eq_some_iff.1 hr).1
            have hri : mods.getD r 0 = i := by rw [List.getD_eq_getElem?_getD, hr]; rfl
            have hrj : j ≤ r := by
              rcases Nat.lt_or_ge r j with h | h
              · have := h1 r h; rw [hri, hun] at this; cases this
              · exact h
            refine ⟨fun q hq => ?_, fun q hq hql => h2 q (by omega) hql⟩
            have hall2 : ∀ d q, q + d + 1 = r → lst L (mods.getD q 0) = true := by
              intro d
              induction d with
              | zero =>
                intro q hq
                have hb := hch2 q (by omega)
                rw [show q + 1 = r by omega, hri] at hb
                unfold befI at hb
                rw [ho'] at hb
                simp only [List.any_eq_true, Bool.and_eq_true] at hb
                obtain ⟨ed, hed, h4, h5⟩ := hb
                have := hbef ed (by simpa using hed) h4
                rwa [Nat.eq_of_beq_eq_true h5] at this
              | succ d ihd =>
                intro q hq
                have hn := ihd (q + 1) (by omega)
                have hb := hch2 q (by omega)
                unfold befI at hb
                split at hb
                · rename_i o3 ho3
                  simp only [List.any_eq_true, Bool.and_eq_true] at hb
                  obtain ⟨ed, hed, h4, h5⟩ := hb
                  have := hdown _ o3 ho3 hn ed (by simpa using hed) h4
                  rwa [Nat.eq_of_beq_eq_true h5] at this
                · cases hb
            exact hall2 (r - q - 1) q (by omega)
          have hk := hk0 (by
            unfold factQ
            cases hr : rankQ mods i with
            | none => trivial
            | some r =>
              obtain ⟨hr1, hr2⟩ := rankQ_some hr
              obtain ⟨hA, hB⟩ := hrank r hr1
              have h3 := entQ_at hents hr2 hA hB
              cases r with
              | zero => simpa [lastV] using h3
              | succ r =>
                intro t v hdt hg
                obtain ⟨j', hj', hdj, rfl⟩ := hmem t v (env_get_mem (by simpa using hg))
                obtain rfl := hdis _ j' t (chainB_lt hch (by omega)) (hprd j' hj').1 hdt hdj
                simpa [lastV] using h3)
          simp only [List.append_nil] at hk
          refine hcase acc' _ _ (fun e σ he hq2 => by cases e <;> first | exact absurd rfl he | exact fun h => h.elim | exact fun h => hPn _ _ (hle.trans hq2) h) hk ⟨hsz, hgets acc' hmem, hok⟩ ?_
          rintro a' w' ⟨σ', hr', hle', hGd', hdf', v, e2, henv', hfv, hown', hfo⟩
          refine hnextG acc' hmem a' w' σ' v e2 hr' hle' hGd' hdf' henv' hfv ?_ ?_
          · intro ms hok'
            rw [hown'] at hok'
            exact hok'
          · unfold foQ at hfo
            cases hr : rankQ mods i with
            | none =>
              rw [hr] at hfo
              simp only at hfo
              subst hfo
              obtain ⟨j, hj, h1, h2, h3⟩ := hents
              have hne : ∀ q, q < mods.length → mods.getD q 0 ≠ i := fun q hq e => rankQ_none hr q hq e
              refine ⟨j, hj, fun q hq => ?_, fun q hq hql => ?_, ?_⟩
              · rw [lst_set (by omega), if_neg (hne q (by omega))]; exact h1 q hq
              · rw [lst_set (by omega), if_neg (hne q hql)]; exact h2 q hq hql
              · have e : lastV mods (fun j => if j = i then v else val j) j = lastV mods val j := by
                  unfold lastV
                  cases j with
                  | zero => rfl
                  | succ j => simp only; rw [if_neg (hne j (by omega))]
                rw [e]; exact hFO _ _ _ _ _ hle' h3
            | some r =>
              rw [hr] at hfo
              simp only at hfo
              obtain ⟨hr1, hr2⟩ := rankQ_some hr
              obtain ⟨hA, hB⟩ := hrank r hr1
              have hri : mods.getD r 0 = i := by rw [List.getD_eq_getElem?_getD, hr1]; rfl
              refine ⟨r + 1, hr2, fun q hq => ?_, fun q hq hql => ?_, ?_⟩
              · rw [lst_set (by omega)]
                split
                · rfl
                · rename_i hne
                  have : q ≠ r := fun e => by rw [e, hri] at hne; exact hne rfl
                  exact hA q (by omega)
              · have hlt := chainB_mono hch hdc (show r < q by omega) hql
                rw [lst_set (by omega), if_neg (by rw [← hri]; omega)]
                exact hB q (by omega) hql
              · simp only [lastV]
                rw [hri, if_pos rfl]; exact hfo
  have hlst0 : ∀ j, lst (Array.replicate l.toArray.size false) j = false := fun j => by simp [lst, Array.getD_eq_getD_getElem?, Array.getElem?_replicate]; split <;> rfl
  exact main l.toArray.size (Array.replicate l.toArray.size false) a₀ _ (fun _ => undef) q H (by simp) (by
      refine Nat.le_trans (List.countP_le_length) (by simp)) (Le.refl _) hG (fun i o _ hl => by
      have : lst (Array.replicate l.toArray.size false) i = false := by simp [lst, Array.getD_eq_getD_getElem?, Array.getElem?_replicate]; split <;> rfl
      rw [this] at hl; cases hl) (fun j _ => by simp [lst, Array.getD_eq_getD_getElem?, Array.getElem?_replicate]; split <;> rfl) hr₀.size hr₀.get
    (let ⟨ms, hd, hok⟩ := hr₀.ok; ⟨ms, hd, hok.drew⟩) ⟨0, Nat.zero_le _, fun q hq => absurd hq (by omega), fun q _ _ => hlst0 _, by simpa [lastV] using hq0⟩ (fun i _ h => by
      have : lst (Array.replicate l.toArray.size false) i = false := by simp [lst, Array.getD_eq_getD_getElem?, Array.getElem?_replicate]; split <;> rfl
      rw [this] at h; cases h)
end
end Go.XL

/- The codec's readers: what they do, in plain words. -/
set_option autoImplicit false
set_option linter.unusedVariables false
set_option linter.unusedSimpArgs false
namespace Go.Proofs
open Go.XL
abbrev PAN : List PanicEntry := [{ v := .iface 28 (.int .i64 10), recovered := false }]
/-- what a function of the reader does: it takes what it wants from the bytes, or it panics -/
def DecR {α : Type} (br : Nat) (o : Option (α × List UInt8)) (val : α → Hp → Value → Prop) : Ending → Hp → XL.Own → Prop
  | .returned v, H, own => ∃ x r a c, o = some (x, r) ∧ own = [(br, .cells 58 [.slice a r.length c])] ∧ SlR u8R H a c r ∧ val x H v
  | .panicked ch, _, own => o = none ∧ ch = PAN ∧ own = []
  | _, _, _ => False
theorem DecR.ret {α : Type} {br : Nat} {o : Option (α × List UInt8)} {val : α → Hp → Value → Prop} {v : Value} {H : Hp} {x : α} {r : List UInt8} {a : Option Addr} {c : Nat} (h : o = some (x, r)) (hs : SlR u8R H a c r) (hv : val x H v) :
    DecR br o val (.returned v) H [(br, .cells 58 [.slice a r.length c])] := ⟨x, r, a, c, h, rfl, hs, hv⟩
theorem DecR.pan {α : Type} {br : Nat} {o : Option (α × List UInt8)} {val : α → Hp → Value → Prop} {H : Hp} (h : o = none) : DecR br o val (.panicked PAN) H [] := ⟨h, rfl, rfl⟩
section
variable {C : Ctx} {ops : Array Oper} {Q : Exit → St → Prop} {rest : List Oper} {env : Env} {df : List Deferred} {H : Hp} {own : XL.Own} {dst : Option Tmp} {ty : TypeId} {pos : String} {af : Array Edge}
theorem XO.callD {f : FuncId} {xs : List Operand} {ts : Array TypeId} {vs : List Value} {α : Type} {br : Nat} {o : Option (α × List UInt8)} {val : α → Hp → Value → Prop} {s0 : SObj} {rst : XL.Own}
    (hxs : evs env xs = some vs) (hf : FnC C.P f vs.toArray H [(br, s0)] (DecR br o val)) (hd : dstOk C.N dst = true) (ho : own = (br, s0) :: rst)
    (h : ∀ H', Le H H' → ∀ v x r a c, o = some (x, r) → SlR u8R H' a c r → val x H' v → XO C ops Q rest ⟨putE dst v env, df, H', (br, .cells 58 [.slice a r.length c]) :: rst⟩)
    (hp : ∀ H', Le H H' → o = none → Q (.panic PAN) ⟨env, df, H', rst⟩) :
    XO C ops Q (⟨dst, .call { callee := .value (.func f), args := xs.toArray, argTypes := ts }, ty, pos, af, none⟩ :: rest) ⟨env, df, H, own⟩ := by
  refine XO.call0 (ownF := [(br, s0)]) (rst := rst) hxs hf hd ho ?_ ?_
  · rintro v H' own' hle ⟨x, r, a, c, h1, rfl, h3, h4⟩
    exact ⟨H', _, hle, Le.refl _, List.Sublist.refl _, h H' hle v x r a c h1 h3 h4⟩
  · rintro ch H' own' hle ⟨h1, rfl, rfl⟩
    exact hp H' hle h1
end
/-! ### Numbers -/
theorem or_shl {u c i : Nat} (hu : u < 2 ^ (7 * i)) (hi : i ≤ 9) (hc : c < 256) (h9 : i < 9 ∨ c ≤ 1) :
    IntKind.u64.wrap ((BitVec.ofInt (IntKind.bits .u64) ((u : Nat) : Int) ||| BitVec.ofInt (IntKind.bits .u64) (((c % 128) * 2 ^ (7 * i) : Nat) : Int)).toNat : Nat) = ((u + c % 128 * 2 ^ (7 * i) : Nat) : Int) := by
  have hp : 2 ^ (7 * i) ≤ 2 ^ 63 := Nat.pow_le_pow_right (by omega) (by omega)
  have hlt : c % 128 * 2 ^ (7 * i) + u < 2 ^ 64 := by
    rcases Nat.lt_or_ge i 9 with h | h
    · have h8 : 2 ^ (7 * i) ≤ 2 ^ 56 := Nat.pow_le_pow_right (by omega) (by omega)
      have : c % 128 * 2 ^ (7 * i) ≤ 127 * 2 ^ 56 := Nat.mul_le_mul (by omega) h8
      omega
    · have hc1 : c % 128 ≤ 1 := by omega
      have : c % 128 * 2 ^ (7 * i) ≤ 1 * 2 ^ 63 := Nat.mul_le_mul hc1 hp
      omega
  rw [show IntKind.bits .u64 = 64 from rfl, BitVec.toNat_or, BitVec.toNat_ofInt, BitVec.toNat_ofInt, wrap_u64_mod]
  have e1 : (((u : Nat) : Int) % ((2 ^ 64 : Nat) : Int)).toNat = u := by omega
  have e2 : (((c % 128 * 2 ^ (7 * i) : Nat) : Int) % ((2 ^ 64 : Nat) : Int)).toNat = c % 128 * 2 ^ (7 * i) := by omega
  rw [e1, e2, Nat.or_comm, Nat.mul_comm, ← Nat.two_pow_add_eq_or_of_lt hu, Nat.mul_comm]
  omega
theorem shl_7 {c i : Nat} (hi : i ≤ 9) (hc : c < 256) (h9 : i < 9 ∨ c ≤ 1) :
    IntKind.u64.wrap (((c % 128 : Nat) : Int) * 2 ^ min ((7 * i : Nat) : Int).toNat (IntKind.bits .u64)) = ((c % 128 * 2 ^ (7 * i) : Nat) : Int) := by
  have hlt : c % 128 * 2 ^ (7 * i) < 2 ^ 64 := by
    rcases Nat.lt_or_ge i 9 with h | h
    · have h8 : 2 ^ (7 * i) ≤ 2 ^ 56 := Nat.pow_le_pow_right (by omega) (by omega)
      have : c % 128 * 2 ^ (7 * i) ≤ 127 * 2 ^ 56 := Nat.mul_le_mul (by omega) h8
      omega
    · have hp : 2 ^ (7 * i) ≤ 2 ^ 63 := Nat.pow_le_pow_right (by omega) (by omega)
      have : c % 128 * 2 ^ (7 * i) ≤ 1 * 2 ^ 63 := Nat.mul_le_mul (by omega) hp
      omega
  have e : min ((7 * i : Nat) : Int).toNat (IntKind.bits .u64) = 7 * i := by
    rw [show IntKind.bits .u64 = 64 from rfl]; omega
  rw [e, wrap_u64_mod, show ((2 : Int) ^ (7 * i)) = ((2 ^ (7 * i) : Nat) : Int) by simp, ← Int.natCast_mul]
  omega
theorem and127 (c : Nat) (hc : c < 256) : IntKind.u8.wrap ((BitVec.ofInt (IntKind.bits .u8) ((c : Nat) : Int) &&& BitVec.ofInt (IntKind.bits .u8) 127).toNat : Nat) = ((c % 128 : Nat) : Int) := by
  rw [show IntKind.bits .u8 = 8 from rfl, and_127 c hc, wrap_u8_mod]; omega
theorem numP_next {i u : Nat} {c : UInt8} {r : List UInt8} (h : (i = 0 ∨ c.toNat ≠ 0) ∧ (i < 9 ∨ c.toNat ≤ 1)) : numP i u (c :: r) = if c.toNat < 128 then some (u + c.toNat * 2 ^ (7 * i), r) else numP (i + 1) (u + (c.toNat % 128) * 2 ^ (7 * i)) r := by
  rw [numP, if_pos h]
theorem numP_bad {i u : Nat} {c : UInt8} {r : List UInt8} (h : ¬ ((i = 0 ∨ c.toNat ≠ 0) ∧ (i < 9 ∨ c.toNat ≤ 1))) : numP i u (c :: r) = none := by
  rw [numP, if_neg h]
theorem numP_lt {i u c : Nat} (hu : u < 2 ^ (7 * i)) (hc : c < 128) : u + c * 2 ^ (7 * i) < 2 ^ (7 * (i + 1)) := by
  have h1 : c * 2 ^ (7 * i) ≤ 127 * 2 ^ (7 * i) := Nat.mul_le_mul (by omega) (Nat.le_refl _)
  rw [show 7 * (i + 1) = 7 * i + 7 by omega, Nat.pow_add]
  omega
/-- what the taker of bytes does -/
def takP (n : Nat) (b : List UInt8) : Option (List UInt8 × List UInt8) := if n ≤ b.length then some (b.take n, b.drop n) else none
theorem take1 {b : List UInt8} {x r : List UInt8} (h : takP 1 b = some (x, r)) : ∃ c, b = c :: r ∧ x = [c] := by
  unfold takP at h
  split at h
  · cases h
    cases b with
    | nil => simp at *
    | cons c b => exact ⟨c, rfl, rfl⟩
  · cases h
theorem take0 {b : List UInt8} (h : takP 1 b = none) : b = [] := by
  unfold takP at h
  split at h
  · cases h
  · cases b with
    | nil => rfl
    | cons c b => simp at *
def SL8 (x : List UInt8) (H : Hp) (v : Value) : Prop := ∃ a c, v = .slice a x.length c ∧ SlR u8R H a c x
end Go.Proofs

/- The walks of the functions of the codec: what each of them computes, at any input. -/
set_option autoImplicit false
set_option linter.unusedVariables false
set_option linter.unusedSimpArgs false
namespace Go.Proofs
open Go.XL

theorem fa_58_0 : fieldF Try.prog 58 0 = some 0 := by kernel_rfl
theorem ty_27 : tyF Try.prog 27 1 false = true := by kernel_rfl

theorem want_ok (br : Nat) (b : Bool) (hb : b = true) (H : Hp) : FnC Try.prog 33 #[.pointer (some ⟨br, 0, none⟩), .bool b] H [] (RetR (fun v _ _ => v = .tuple #[])) := by
  refine FnC.intro (args := [.pointer (some ⟨br, 0, none⟩), .bool b]) Try.func33 rfl rfl Try.ntmps33 rfl rfl rfl fun G rest => ?_
  refine XC.seq ?_
  refine XC.region ?_
  refine XO.move rfl rfl ?_
  refine XO.notB rfl rfl ?_
  refine XO.nil ?_
  refine XC.seq2 ?_
  refine XC.condF rfl (by rw [hb]; rfl) ?_
  refine XC.skip ?_
  refine ⟨rfl, _, [], rfl, (by repeat (first | exact List.Sublist.refl _ | apply List.Sublist.cons)), RetR.mk ?_⟩
  rfl

theorem want_bad (br : Nat) (b : Bool) (hb : b = false) (H : Hp) : FnC Try.prog 33 #[.pointer (some ⟨br, 0, none⟩), .bool b] H [] (PanR PAN) := by
  refine FnC.intro (args := [.pointer (some ⟨br, 0, none⟩), .bool b]) Try.func33 rfl rfl Try.ntmps33 rfl rfl rfl fun G rest => ?_
  refine XC.seq ?_
  refine XC.region ?_
  refine XO.move rfl rfl ?_
  refine XO.notB rfl rfl ?_
  refine XO.nil ?_
  refine XC.seq2 ?_
  refine XC.condT rfl (by rw [hb]; rfl) ?_
  refine XC.region ?_
  refine XO.makeInterface rfl Try.underlying28 (by intro _ h; cases h) rfl ?_
  refine XO.panic rfl ?_
  refine ⟨rfl, [], (by repeat (first | exact List.Sublist.refl _ | apply List.Sublist.cons)), PanR.mk⟩

theorem take_fn (br : Nat) (a : Option Addr) (c : Nat) (b : List UInt8) (n : Nat) (hn : n < 4611686018427387904) (H : Hp) (hs : SlR u8R H a c b) (hlen : b.length ≤ 1000000) : FnC Try.prog 44 #[.pointer (some ⟨br, 0, none⟩), .int .i64 (n : Nat)] H [(br, .cells 58 [.slice a b.length c])] (DecR br (takP n b) SL8) := by
  refine FnC.intro (args := [.pointer (some ⟨br, 0, none⟩), .int .i64 (n : Nat)]) Try.func44 rfl rfl Try.ntmps44 rfl rfl rfl fun G rest => ?_
  have hcb := hs.le
  refine XC.seq ?_
  refine XC.region ?_
  refine XO.assign rfl rfl ?_
  refine XO.nil ?_
  refine XC.seq2 ?_
  refine XC.seq ?_
  refine XC.region ?_
  refine XO.move rfl rfl ?_
  refine XO.move rfl rfl ?_
  refine XO.move rfl rfl ?_
  refine XO.nilCheckP rfl rfl ?_
  refine XO.fieldAddr rfl fa_58_0 rfl ?_
  refine XO.loadO 0 rfl rfl ty_27 rfl rfl rfl ?_
  refine XO.lenS (ts := #[]) rfl Try.underlying27 rfl ?_
  refine XO.leq rfl rfl rfl ?_
  by_cases hwb : n ≤ b.length
  · skip
    refine XO.callV rfl (want_ok _ _ (decide_eq_true (by omega)) _) rfl ?_
    refine XO.nil ?_
    refine XC.seq2 ?_
    refine XC.seq ?_
    refine XC.region ?_
    refine XO.move rfl rfl ?_
    refine XO.nilCheckP rfl rfl ?_
    refine XO.fieldAddr rfl fa_58_0 rfl ?_
    refine XO.loadO 0 rfl rfl ty_27 rfl rfl rfl ?_
    refine XO.move rfl rfl ?_
    refine XO.move rfl rfl ?_
    refine XO.slice (lo' := 0) (hi' := (n : Int)) (m' := (n : Int)) rfl hs ev?_none (ev?_some rfl) (ev?_some rfl) (by simp) (by omega) (by omega) (by omega) (by omega) (by omega) Try.underlying27 ty_5 rfl (fun as21 ls21 hls21 hss21 => ?_)
    obtain rfl : ls21 = b.take n := by first | (rw [hls21]; simp; done) | (rw [hls21]; simp; rw [List.take_of_length_le (by simp)])
    refine XO.assign rfl rfl ?_
    refine XO.nil ?_
    refine XC.seq2 ?_
    refine XC.seq ?_
    refine XC.region ?_
    refine XO.move rfl rfl ?_
    refine XO.move rfl rfl ?_
    refine XO.nilCheckP rfl rfl ?_
    refine XO.fieldAddr rfl fa_58_0 rfl ?_
    refine XO.loadO 0 rfl rfl ty_27 rfl rfl rfl ?_
    refine XO.move rfl rfl ?_
    refine XO.slice (lo' := (n : Int)) (hi' := (b.length : Int)) (m' := (c : Int)) rfl hs (ev?_some rfl) ev?_none ev?_none (by simp) (by omega) (by omega) (by omega) (by omega) (by omega) Try.underlying27 ty_5 rfl (fun as28 ls28 hls28 hss28 => ?_)
    obtain rfl : ls28 = b.drop n := by first | (rw [hls28]; simp; done) | (rw [hls28]; simp; rw [List.take_of_length_le (by simp)])
    refine XO.nilCheckP rfl rfl ?_
    refine XO.fieldAddr rfl fa_58_0 rfl ?_
    refine XO.storeO 0 rfl rfl rfl rfl ty_27 rfl rfl rfl rfl rfl ?_
    refine XO.nil ?_
    refine XC.seq2 ?_
    refine XC.seq ?_
    refine XC.region ?_
    refine XO.move rfl rfl ?_
    refine XO.assign rfl rfl ?_
    refine XO.nil ?_
    refine XC.seq2 ?_
    refine XC.ret ?_
    refine ⟨rfl, _, [_], rfl, (by repeat (first | exact List.Sublist.refl _ | apply List.Sublist.cons_cons | apply List.Sublist.cons)), ?_⟩
    exact DecR.ret (by unfold takP; rw [if_pos hwb]) (by assumption) ⟨_, _, rfl, by assumption⟩
  · skip
    refine XO.callP rfl (want_bad _ _ (decide_eq_false (by omega)) _) rfl (fun HB hleB => ?_)
    have hnone : takP n b = none := by unfold takP; rw [if_neg hwb]
    replace hs := hs.mono hleB
    refine seqX_panic ?_
    refine ⟨rfl, [], (by repeat (first | exact List.Sublist.refl _ | apply List.Sublist.cons)), DecR.pan hnone⟩

theorem number_fn (br : Nat) (a : Option Addr) (c : Nat) (b : List UInt8) (H : Hp) (hs : SlR u8R H a c b) (hlen : b.length ≤ 1000000) : FnC Try.prog 46 #[.pointer (some ⟨br, 0, none⟩)] H [(br, .cells 58 [.slice a b.length c])] (DecR br (numG b) (fun u _ v => v = .int .u64 (u : Nat))) := by
  refine FnC.intro (args := [.pointer (some ⟨br, 0, none⟩)]) Try.func46 rfl rfl Try.ntmps46 rfl rfl rfl fun G rest => ?_
  refine XC.seq ?_
  refine XC.region ?_
  refine XO.assign rfl rfl ?_
  refine XO.nil ?_
  refine XC.seq2 ?_
  refine XC.seq ?_
  refine XC.region ?_
  refine XO.assign rfl rfl ?_
  refine XO.nil ?_
  refine XC.seq2 ?_
  refine XC.block ?_
  refine XC.keep [2, 3, 0] rfl ?_
  refine XC.loop (base := [(0, _)]) (fun ζ : Nat × (Nat) × (List UInt8) × (Option Addr) × (Nat) => [(2, .int .u64 (ζ.2.1 : Nat)), (3, .int .i64 (ζ.1 : Nat))]) (fun ζ Hl own => (br, .cells 58 [.slice ζ.2.2.2.1 ζ.2.2.1.length ζ.2.2.2.2]) :: rest = own ∧ (SlR u8R Hl ζ.2.2.2.1 ζ.2.2.2.2 ζ.2.2.1) ∧ (numG b = numP ζ.1 ζ.2.1 ζ.2.2.1) ∧ (ζ.2.1 < 2 ^ (7 * ζ.1)) ∧ (ζ.1 ≤ 9) ∧ (ζ.2.2.1.length ≤ 1000000)) (fun ζ => 10 - ζ.1) (0, 0, b, a, c) (prov_cons (rfl) (prov_cons (rfl) (prov_cons (rfl) prov_nil))) (by repeat (first | exact List.Sublist.refl _ | apply List.Sublist.cons_cons | apply List.Sublist.cons)) ⟨rfl, hs, rfl, by show 0 < 2 ^ (7 * 0); decide, by show 0 ≤ 9; omega, hlen⟩ ?_
  rintro ⟨i, u, bb, aa, cc⟩ Hl0 _ hle0 ⟨rfl, hs2, hP, hu, hi, hlb⟩
  replace hs := hs.mono hle0
  try dsimp only at hs2 hP hu hi hlb ⊢
  refine XC.seq ?_
  refine XC.block ?_
  refine XC.seq ?_
  refine XC.region ?_
  refine XO.move rfl rfl ?_
  have hcall8 := take_fn br aa cc bb 1 (by decide) _ hs2 hlb
  refine XO.callD rfl hcall8 rfl rfl ?_ ?_
  · intro HT8 hleT8 vT8 xT8 rT8 aT8 cT8 hoT8 hsT8 hvT8
    replace hs := hs.mono hleT8
    replace hs2 := hs2.mono hleT8
    replace hle0 := hle0.trans hleT8
    obtain ⟨aV8, cV8, rfl, hV8⟩ := hvT8
    obtain ⟨y8, rfl, rfl⟩ := take1 hoT8
    have hy1 : [y8].length = 1 := rfl
    refine XO.indexN (i := 0) rfl hV8 rfl Try.underlying27 ty_5 (by omega) rfl ?_
    rintro eb9 eo9 _ x9 hx9 rfl hp9
    obtain rfl : y8 = x9 := by simpa using hx9
    refine XO.loadH rfl (by assumption) ty_5 rfl rfl rfl ?_
    refine XO.assign rfl rfl ?_
    refine XO.nil ?_
    refine XC.seq2 ?_
    refine XC.seq ?_
    refine XC.region ?_
    refine XO.move rfl rfl ?_
    refine XO.move rfl rfl ?_
    refine XO.eql rfl rfl rfl ?_
    refine XO.move rfl rfl ?_
    refine XO.guardC rfl rfl rfl rfl (fun g2 => ?_) (fun g2 => ?_)
    · have g2p := of_decide_eq_false g2
      refine XO.move rfl rfl ?_
      refine XO.guardT rfl rfl (g2) rfl ?_
      refine XO.neq rfl rfl rfl ?_
      refine XO.pickF rfl (g2) rfl rfl ?_
      refine XO.move rfl rfl ?_
      refine XO.guardC rfl rfl rfl rfl (fun g3 => ?_) (fun g3 => ?_)
      · have g3p := of_decide_eq_true g3
        refine XO.move rfl rfl ?_
        refine XO.guardT rfl rfl (g3) rfl ?_
        refine XO.lss rfl rfl rfl ?_
        refine XO.guardT rfl rfl (g3) rfl ?_
        refine XO.move rfl rfl ?_
        refine XO.guardC rfl rfl rfl rfl (fun g4 => ?_) (fun g4 => ?_)
        · have g4p := of_decide_eq_false g4
          refine XO.move rfl rfl ?_
          refine XO.guardT rfl rfl (g4) rfl ?_
          refine XO.leq rfl rfl rfl ?_
          refine XO.guardT rfl rfl (g3) rfl ?_
          refine XO.pickF rfl (g4) rfl rfl ?_
          refine XO.pickT rfl (g3) rfl rfl ?_
          by_cases hwb : (i = 0 ∨ y8.toNat ≠ 0) ∧ (i < 9 ∨ y8.toNat ≤ 1)
          · skip
            refine XO.callV rfl (want_ok _ _ (by first | rfl | (simp_all; done) | (simp_all; omega)) _) rfl ?_
            refine XO.nil ?_
            refine XC.seq2 ?_
            refine XC.seq ?_
            refine XC.region ?_
            refine XO.move rfl rfl ?_
            refine XO.move rfl rfl ?_
            have hc256 := toNat_lt y8
            refine XO.band rfl rfl rfl ?_
            rw [and127 _ (toNat_lt y8)]
            refine XO.convI (c := ((y8.toNat % 128 : Nat) : Int)) rfl Try.underlying5 Try.underlying68 (wrap_u64 (by omega) (by omega)) rfl ?_
            refine XO.move rfl rfl ?_
            refine XO.mul (c := ((7 * i : Nat) : Int)) rfl rfl ((wrap_i64 (by omega) (by omega)).trans (by omega)) rfl ?_
            refine XO.shl rfl rfl (by omega) rfl ?_
            rw [shl_7 hi (toNat_lt _) hwb.2]
            refine XO.bor rfl rfl rfl ?_
            rw [or_shl hu hi (toNat_lt _) hwb.2]
            refine XO.assign rfl rfl ?_
            refine XO.nil ?_
            refine XC.seq2 ?_
            refine XC.seq ?_
            refine XC.region ?_
            refine XO.move rfl rfl ?_
            refine XO.lss rfl rfl rfl ?_
            refine XO.nil ?_
            refine XC.seq2 ?_
            refine XC.cond rfl (fun c0_10 => ?_) (fun c0_10 => ?_)
            · have hlt : y8.toNat < 128 := by omega
              refine XC.seq ?_
              refine XC.region ?_
              refine XO.move rfl rfl ?_
              refine XO.assign rfl rfl ?_
              refine XO.nil ?_
              refine XC.seq2 ?_
              refine XC.ret ?_
              refine blockR ?_
              refine seqX_ret ?_
              refine loopX_ret ?_
              refine blockR ?_
              refine ⟨rfl, _, [_], rfl, (by repeat (first | exact List.Sublist.refl _ | apply List.Sublist.cons_cons | apply List.Sublist.cons)), ?_⟩
              exact DecR.ret (by rw [hP, numP_next hwb, if_pos hlt, Nat.mod_eq_of_lt hlt]) hsT8 rfl
            · have hge : ¬ y8.toNat < 128 := by omega
              refine XC.skip ?_
              refine blockN ?_
              refine XC.seq2 ?_
              refine XC.region ?_
              refine XO.move rfl rfl ?_
              refine XO.add rfl rfl (wrap_i64 (by omega) (by omega)) rfl ?_
              refine XO.assign rfl rfl ?_
              refine XO.nil ?_
              refine loop_next ((i + 1, u + y8.toNat % 128 * 2 ^ (7 * i), rT8, aT8, cT8)) (by show 10 - (i + 1) < 10 - i; omega) (prov_cons (rfl) (prov_cons (rfl) (prov_cons (rfl) prov_nil))) (⟨rfl, hsT8, by rw [hP, numP_next hwb, if_neg hge], numP_lt hu (by omega), by show i + 1 ≤ 9; omega, by simp only [List.length_cons] at hlb; (try dsimp only); omega⟩) (by repeat (first | exact List.Sublist.refl _ | apply List.Sublist.cons_cons | apply List.Sublist.cons)) (hle0)
          · skip
            refine XO.callP rfl (want_bad _ _ (by first | rfl | (simp_all; done) | (simp_all; omega)) _) rfl (fun HB hleB => ?_)
            have hnone : numG b = none := hP.trans (numP_bad hwb)
            replace hs := hs.mono hleB
            replace hs2 := hs2.mono hleB
            replace hsT8 := hsT8.mono hleB
            replace hV8 := hV8.mono hleB
            replace hp9 := hp9.mono hleB
            replace hle0 := hle0.trans hleB
            refine seqX_panic ?_
            refine blockP ?_
            refine seqX_panic ?_
            refine loopX_panic ?_
            refine blockP ?_
            refine ⟨rfl, [], (by repeat (first | exact List.Sublist.refl _ | apply List.Sublist.cons)), DecR.pan hnone⟩
        · have g4p := of_decide_eq_true g4
          refine XO.guardF rfl rfl (g4) rfl rfl ?_
          refine XO.guardT rfl rfl (g3) rfl ?_
          refine XO.pickT rfl (g4) rfl rfl ?_
          refine XO.pickT rfl (g3) rfl rfl ?_
          by_cases hwb : (i = 0 ∨ y8.toNat ≠ 0) ∧ (i < 9 ∨ y8.toNat ≤ 1)
          · skip
            refine XO.callV rfl (want_ok _ _ (by first | rfl | (simp_all; done) | (simp_all; omega)) _) rfl ?_
            refine XO.nil ?_
            refine XC.seq2 ?_
            refine XC.seq ?_
            refine XC.region ?_
            refine XO.move rfl rfl ?_
            refine XO.move rfl rfl ?_
            have hc256 := toNat_lt y8
            refine XO.band rfl rfl rfl ?_
            rw [and127 _ (toNat_lt y8)]
            refine XO.convI (c := ((y8.toNat % 128 : Nat) : Int)) rfl Try.underlying5 Try.underlying68 (wrap_u64 (by omega) (by omega)) rfl ?_
            refine XO.move rfl rfl ?_
            refine XO.mul (c := ((7 * i : Nat) : Int)) rfl rfl ((wrap_i64 (by omega) (by omega)).trans (by omega)) rfl ?_
            refine XO.shl rfl rfl (by omega) rfl ?_
            rw [shl_7 hi (toNat_lt _) hwb.2]
            refine XO.bor rfl rfl rfl ?_
            rw [or_shl hu hi (toNat_lt _) hwb.2]
            refine XO.assign rfl rfl ?_
            refine XO.nil ?_
            refine XC.seq2 ?_
            refine XC.seq ?_
            refine XC.region ?_
            refine XO.move rfl rfl ?_
            refine XO.lss rfl rfl rfl ?_
            refine XO.nil ?_
            refine XC.seq2 ?_
            refine XC.cond rfl (fun c0_16 => ?_) (fun c0_16 => ?_)
            · have hlt : y8.toNat < 128 := by omega
              refine XC.seq ?_
              refine XC.region ?_
              refine XO.move rfl rfl ?_
              refine XO.assign rfl rfl ?_
              refine XO.nil ?_
              refine XC.seq2 ?_
              refine XC.ret ?_
              refine blockR ?_
              refine seqX_ret ?_
              refine loopX_ret ?_
              refine blockR ?_
              refine ⟨rfl, _, [_], rfl, (by repeat (first | exact List.Sublist.refl _ | apply List.Sublist.cons_cons | apply List.Sublist.cons)), ?_⟩
              exact DecR.ret (by rw [hP, numP_next hwb, if_pos hlt, Nat.mod_eq_of_lt hlt]) hsT8 rfl
            · have hge : ¬ y8.toNat < 128 := by omega
              refine XC.skip ?_
              refine blockN ?_
              refine XC.seq2 ?_
              refine XC.region ?_
              refine XO.move rfl rfl ?_
              refine XO.add rfl rfl (wrap_i64 (by omega) (by omega)) rfl ?_
              refine XO.assign rfl rfl ?_
              refine XO.nil ?_
              refine loop_next ((i + 1, u + y8.toNat % 128 * 2 ^ (7 * i), rT8, aT8, cT8)) (by show 10 - (i + 1) < 10 - i; omega) (prov_cons (rfl) (prov_cons (rfl) (prov_cons (rfl) prov_nil))) (⟨rfl, hsT8, by rw [hP, numP_next hwb, if_neg hge], numP_lt hu (by omega), by show i + 1 ≤ 9; omega, by simp only [List.length_cons] at hlb; (try dsimp only); omega⟩) (by repeat (first | exact List.Sublist.refl _ | apply List.Sublist.cons_cons | apply List.Sublist.cons)) (hle0)
          · skip
            refine XO.callP rfl (want_bad _ _ (by first | rfl | (simp_all; done) | (simp_all; omega)) _) rfl (fun HB hleB => ?_)
            have hnone : numG b = none := hP.trans (numP_bad hwb)
            replace hs := hs.mono hleB
            replace hs2 := hs2.mono hleB
            replace hsT8 := hsT8.mono hleB
            replace hV8 := hV8.mono hleB
            replace hp9 := hp9.mono hleB
            replace hle0 := hle0.trans hleB
            refine seqX_panic ?_
            refine blockP ?_
            refine seqX_panic ?_
            refine loopX_panic ?_
            refine blockP ?_
            refine ⟨rfl, [], (by repeat (first | exact List.Sublist.refl _ | apply List.Sublist.cons)), DecR.pan hnone⟩
      · have g3p := of_decide_eq_false g3
        refine XO.guardF rfl rfl (g3) rfl rfl ?_
        refine XO.guardF rfl rfl (g3) rfl rfl ?_
        refine XO.guardU rfl rfl rfl rfl ?_
        refine XO.guardU rfl rfl rfl rfl ?_
        refine XO.guardF rfl rfl (g3) rfl rfl ?_
        refine XO.pickF rfl (g3) rfl rfl ?_
        by_cases hwb : (i = 0 ∨ y8.toNat ≠ 0) ∧ (i < 9 ∨ y8.toNat ≤ 1)
        · skip
          refine XO.callV rfl (want_ok _ _ (by first | rfl | (simp_all; done) | (simp_all; omega)) _) rfl ?_
          refine XO.nil ?_
          refine XC.seq2 ?_
          refine XC.seq ?_
          refine XC.region ?_
          refine XO.move rfl rfl ?_
          refine XO.move rfl rfl ?_
          have hc256 := toNat_lt y8
          refine XO.band rfl rfl rfl ?_
          rw [and127 _ (toNat_lt y8)]
          refine XO.convI (c := ((y8.toNat % 128 : Nat) : Int)) rfl Try.underlying5 Try.underlying68 (wrap_u64 (by omega) (by omega)) rfl ?_
          refine XO.move rfl rfl ?_
          refine XO.mul (c := ((7 * i : Nat) : Int)) rfl rfl ((wrap_i64 (by omega) (by omega)).trans (by omega)) rfl ?_
          refine XO.shl rfl rfl (by omega) rfl ?_
          rw [shl_7 hi (toNat_lt _) hwb.2]
          refine XO.bor rfl rfl rfl ?_
          rw [or_shl hu hi (toNat_lt _) hwb.2]
          refine XO.assign rfl rfl ?_
          refine XO.nil ?_
          refine XC.seq2 ?_
          refine XC.seq ?_
          refine XC.region ?_
          refine XO.move rfl rfl ?_
          refine XO.lss rfl rfl rfl ?_
          refine XO.nil ?_
          refine XC.seq2 ?_
          refine XC.cond rfl (fun c0_22 => ?_) (fun c0_22 => ?_)
          · have hlt : y8.toNat < 128 := by omega
            refine XC.seq ?_
            refine XC.region ?_
            refine XO.move rfl rfl ?_
            refine XO.assign rfl rfl ?_
            refine XO.nil ?_
            refine XC.seq2 ?_
            refine XC.ret ?_
            refine blockR ?_
            refine seqX_ret ?_
            refine loopX_ret ?_
            refine blockR ?_
            refine ⟨rfl, _, [_], rfl, (by repeat (first | exact List.Sublist.refl _ | apply List.Sublist.cons_cons | apply List.Sublist.cons)), ?_⟩
            exact DecR.ret (by rw [hP, numP_next hwb, if_pos hlt, Nat.mod_eq_of_lt hlt]) hsT8 rfl
          · have hge : ¬ y8.toNat < 128 := by omega
            refine XC.skip ?_
            refine blockN ?_
            refine XC.seq2 ?_
            refine XC.region ?_
            refine XO.move rfl rfl ?_
            refine XO.add rfl rfl (wrap_i64 (by omega) (by omega)) rfl ?_
            refine XO.assign rfl rfl ?_
            refine XO.nil ?_
            refine loop_next ((i + 1, u + y8.toNat % 128 * 2 ^ (7 * i), rT8, aT8, cT8)) (by show 10 - (i + 1) < 10 - i; omega) (prov_cons (rfl) (prov_cons (rfl) (prov_cons (rfl) prov_nil))) (⟨rfl, hsT8, by rw [hP, numP_next hwb, if_neg hge], numP_lt hu (by omega), by show i + 1 ≤ 9; omega, by simp only [List.length_cons] at hlb; (try dsimp only); omega⟩) (by repeat (first | exact List.Sublist.refl _ | apply List.Sublist.cons_cons | apply List.Sublist.cons)) (hle0)
        · skip
          refine XO.callP rfl (want_bad _ _ (by first | rfl | (simp_all; done) | (simp_all; omega)) _) rfl (fun HB hleB => ?_)
          have hnone : numG b = none := hP.trans (numP_bad hwb)
          replace hs := hs.mono hleB
          replace hs2 := hs2.mono hleB
          replace hsT8 := hsT8.mono hleB
          replace hV8 := hV8.mono hleB
          replace hp9 := hp9.mono hleB
          replace hle0 := hle0.trans hleB
          refine seqX_panic ?_
          refine blockP ?_
          refine seqX_panic ?_
          refine loopX_panic ?_
          refine blockP ?_
          refine ⟨rfl, [], (by repeat (first | exact List.Sublist.refl _ | apply List.Sublist.cons)), DecR.pan hnone⟩
    · have g2p := of_decide_eq_true g2
      refine XO.guardF rfl rfl (g2) rfl rfl ?_
      refine XO.pickT rfl (g2) rfl rfl ?_
      refine XO.move rfl rfl ?_
      refine XO.guardT rfl rfl (rfl) rfl ?_
      refine XO.move rfl rfl ?_
      refine XO.guardT rfl rfl (rfl) rfl ?_
      refine XO.lss rfl rfl rfl ?_
      refine XO.guardT rfl rfl (rfl) rfl ?_
      refine XO.move rfl rfl ?_
      refine XO.guardC rfl rfl rfl rfl (fun g23 => ?_) (fun g23 => ?_)
      · have g23p := of_decide_eq_false g23
        refine XO.move rfl rfl ?_
        refine XO.guardT rfl rfl (g23) rfl ?_
        refine XO.leq rfl rfl rfl ?_
        refine XO.guardT rfl rfl (rfl) rfl ?_
        refine XO.pickF rfl (g23) rfl rfl ?_
        refine XO.pickT rfl (rfl) rfl rfl ?_
        by_cases hwb : (i = 0 ∨ y8.toNat ≠ 0) ∧ (i < 9 ∨ y8.toNat ≤ 1)
        · skip
          refine XO.callV rfl (want_ok _ _ (by first | rfl | (simp_all; done) | (simp_all; omega)) _) rfl ?_
          refine XO.nil ?_
          refine XC.seq2 ?_
          refine XC.seq ?_
          refine XC.region ?_
          refine XO.move rfl rfl ?_
          refine XO.move rfl rfl ?_
          have hc256 := toNat_lt y8
          refine XO.band rfl rfl rfl ?_
          rw [and127 _ (toNat_lt y8)]
          refine XO.convI (c := ((y8.toNat % 128 : Nat) : Int)) rfl Try.underlying5 Try.underlying68 (wrap_u64 (by omega) (by omega)) rfl ?_
          refine XO.move rfl rfl ?_
          refine XO.mul (c := ((7 * i : Nat) : Int)) rfl rfl ((wrap_i64 (by omega) (by omega)).trans (by omega)) rfl ?_
          refine XO.shl rfl rfl (by omega) rfl ?_
          rw [shl_7 hi (toNat_lt _) hwb.2]
          refine XO.bor rfl rfl rfl ?_
          rw [or_shl hu hi (toNat_lt _) hwb.2]
          refine XO.assign rfl rfl ?_
          refine XO.nil ?_
          refine XC.seq2 ?_
          refine XC.seq ?_
          refine XC.region ?_
          refine XO.move rfl rfl ?_
          refine XO.lss rfl rfl rfl ?_
          refine XO.nil ?_
          refine XC.seq2 ?_
          refine XC.cond rfl (fun c0_29 => ?_) (fun c0_29 => ?_)
          · have hlt : y8.toNat < 128 := by omega
            refine XC.seq ?_
            refine XC.region ?_
            refine XO.move rfl rfl ?_
            refine XO.assign rfl rfl ?_
            refine XO.nil ?_
            refine XC.seq2 ?_
            refine XC.ret ?_
            refine blockR ?_
            refine seqX_ret ?_
            refine loopX_ret ?_
            refine blockR ?_
            refine ⟨rfl, _, [_], rfl, (by repeat (first | exact List.Sublist.refl _ | apply List.Sublist.cons_cons | apply List.Sublist.cons)), ?_⟩
            exact DecR.ret (by rw [hP, numP_next hwb, if_pos hlt, Nat.mod_eq_of_lt hlt]) hsT8 rfl
          · have hge : ¬ y8.toNat < 128 := by omega
            refine XC.skip ?_
            refine blockN ?_
            refine XC.seq2 ?_
            refine XC.region ?_
            refine XO.move rfl rfl ?_
            refine XO.add rfl rfl (wrap_i64 (by omega) (by omega)) rfl ?_
            refine XO.assign rfl rfl ?_
            refine XO.nil ?_
            refine loop_next ((i + 1, u + y8.toNat % 128 * 2 ^ (7 * i), rT8, aT8, cT8)) (by show 10 - (i + 1) < 10 - i; omega) (prov_cons (rfl) (prov_cons (rfl) (prov_cons (rfl) prov_nil))) (⟨rfl, hsT8, by rw [hP, numP_next hwb, if_neg hge], numP_lt hu (by omega), by show i + 1 ≤ 9; omega, by simp only [List.length_cons] at hlb; (try dsimp only); omega⟩) (by repeat (first | exact List.Sublist.refl _ | apply List.Sublist.cons_cons | apply List.Sublist.cons)) (hle0)
        · skip
          refine XO.callP rfl (want_bad _ _ (by first | rfl | (simp_all; done) | (simp_all; omega)) _) rfl (fun HB hleB => ?_)
          have hnone : numG b = none := hP.trans (numP_bad hwb)
          replace hs := hs.mono hleB
          replace hs2 := hs2.mono hleB
          replace hsT8 := hsT8.mono hleB
          replace hV8 := hV8.mono hleB
          replace hp9 := hp9.mono hleB
          replace hle0 := hle0.trans hleB
          refine seqX_panic ?_
          refine blockP ?_
          refine seqX_panic ?_
          refine loopX_panic ?_
          refine blockP ?_
          refine ⟨rfl, [], (by repeat (first | exact List.Sublist.refl _ | apply List.Sublist.cons)), DecR.pan hnone⟩
      · have g23p := of_decide_eq_true g23
        refine XO.guardF rfl rfl (g23) rfl rfl ?_
        refine XO.guardT rfl rfl (rfl) rfl ?_
        refine XO.pickT rfl (g23) rfl rfl ?_
        refine XO.pickT rfl (rfl) rfl rfl ?_
        by_cases hwb : (i = 0 ∨ y8.toNat ≠ 0) ∧ (i < 9 ∨ y8.toNat ≤ 1)
        · skip
          refine XO.callV rfl (want_ok _ _ (by first | rfl | (simp_all; done) | (simp_all; omega)) _) rfl ?_
          refine XO.nil ?_
          refine XC.seq2 ?_
          refine XC.seq ?_
          refine XC.region ?_
          refine XO.move rfl rfl ?_
          refine XO.move rfl rfl ?_
          have hc256 := toNat_lt y8
          refine XO.band rfl rfl rfl ?_
          rw [and127 _ (toNat_lt y8)]
          refine XO.convI (c := ((y8.toNat % 128 : Nat) : Int)) rfl Try.underlying5 Try.underlying68 (wrap_u64 (by omega) (by omega)) rfl ?_
          refine XO.move rfl rfl ?_
          refine XO.mul (c := ((7 * i : Nat) : Int)) rfl rfl ((wrap_i64 (by omega) (by omega)).trans (by omega)) rfl ?_
          refine XO.shl rfl rfl (by omega) rfl ?_
          rw [shl_7 hi (toNat_lt _) hwb.2]
          refine XO.bor rfl rfl rfl ?_
          rw [or_shl hu hi (toNat_lt _) hwb.2]
          refine XO.assign rfl rfl ?_
          refine XO.nil ?_
          refine XC.seq2 ?_
          refine XC.seq ?_
          refine XC.region ?_
          refine XO.move rfl rfl ?_
          refine XO.lss rfl rfl rfl ?_
          refine XO.nil ?_
          refine XC.seq2 ?_
          refine XC.cond rfl (fun c0_35 => ?_) (fun c0_35 => ?_)
          · have hlt : y8.toNat < 128 := by omega
            refine XC.seq ?_
            refine XC.region ?_
            refine XO.move rfl rfl ?_
            refine XO.assign rfl rfl ?_
            refine XO.nil ?_
            refine XC.seq2 ?_
            refine XC.ret ?_
            refine blockR ?_
            refine seqX_ret ?_
            refine loopX_ret ?_
            refine blockR ?_
            refine ⟨rfl, _, [_], rfl, (by repeat (first | exact List.Sublist.refl _ | apply List.Sublist.cons_cons | apply List.Sublist.cons)), ?_⟩
            exact DecR.ret (by rw [hP, numP_next hwb, if_pos hlt, Nat.mod_eq_of_lt hlt]) hsT8 rfl
          · have hge : ¬ y8.toNat < 128 := by omega
            refine XC.skip ?_
            refine blockN ?_
            refine XC.seq2 ?_
            refine XC.region ?_
            refine XO.move rfl rfl ?_
            refine XO.add rfl rfl (wrap_i64 (by omega) (by omega)) rfl ?_
            refine XO.assign rfl rfl ?_
            refine XO.nil ?_
            refine loop_next ((i + 1, u + y8.toNat % 128 * 2 ^ (7 * i), rT8, aT8, cT8)) (by show 10 - (i + 1) < 10 - i; omega) (prov_cons (rfl) (prov_cons (rfl) (prov_cons (rfl) prov_nil))) (⟨rfl, hsT8, by rw [hP, numP_next hwb, if_neg hge], numP_lt hu (by omega), by show i + 1 ≤ 9; omega, by simp only [List.length_cons] at hlb; (try dsimp only); omega⟩) (by repeat (first | exact List.Sublist.refl _ | apply List.Sublist.cons_cons | apply List.Sublist.cons)) (hle0)
        · skip
          refine XO.callP rfl (want_bad _ _ (by first | rfl | (simp_all; done) | (simp_all; omega)) _) rfl (fun HB hleB => ?_)
          have hnone : numG b = none := hP.trans (numP_bad hwb)
          replace hs := hs.mono hleB
          replace hs2 := hs2.mono hleB
          replace hsT8 := hsT8.mono hleB
          replace hV8 := hV8.mono hleB
          replace hp9 := hp9.mono hleB
          replace hle0 := hle0.trans hleB
          refine seqX_panic ?_
          refine blockP ?_
          refine seqX_panic ?_
          refine loopX_panic ?_
          refine blockP ?_
          refine ⟨rfl, [], (by repeat (first | exact List.Sublist.refl _ | apply List.Sublist.cons)), DecR.pan hnone⟩
  · intro HT8 hleT8 hno
    have hnone : numG b = none := by rw [hP, take0 hno]; rfl
    replace hs := hs.mono hleT8
    replace hs2 := hs2.mono hleT8
    replace hle0 := hle0.trans hleT8
    refine seqX_panic ?_
    refine blockP ?_
    refine seqX_panic ?_
    refine loopX_panic ?_
    refine blockP ?_
    refine ⟨rfl, [], (by repeat (first | exact List.Sublist.refl _ | apply List.Sublist.cons)), DecR.pan hnone⟩

theorem length_fn (br : Nat) (a : Option Addr) (c : Nat) (b : List UInt8) (H : Hp) (hs : SlR u8R H a c b) (hlen : b.length ≤ 1000000) : FnC Try.prog 47 #[.pointer (some ⟨br, 0, none⟩)] H [(br, .cells 58 [.slice a b.length c])] (DecR br (lenG b) (fun u _ v => v = .int .i64 (u : Nat))) := by
  refine FnC.intro (args := [.pointer (some ⟨br, 0, none⟩)]) Try.func47 rfl rfl Try.ntmps47 rfl rfl rfl fun G rest => ?_
  refine XC.seq ?_
  refine XC.region ?_
  refine XO.assign rfl rfl ?_
  refine XO.nil ?_
  refine XC.seq2 ?_
  refine XC.seq ?_
  refine XC.region ?_
  refine XO.move rfl rfl ?_
  have hcall5 := number_fn br a c b _ hs hlen
  refine XO.callD rfl hcall5 rfl rfl ?_ ?_
  · intro HT5 hleT5 vT5 xT5 rT5 aT5 cT5 hoT5 hsT5 hvT5
    replace hs := hs.mono hleT5
    have hul := (numG_of hoT5).2
    have hbl := congrArg List.length (numG_of hoT5).1
    rw [List.length_append] at hbl
    subst hvT5
    refine XO.assign rfl rfl ?_
    refine XO.nil ?_
    refine XC.seq2 ?_
    refine XC.seq ?_
    refine XC.region ?_
    refine XO.move rfl rfl ?_
    refine XO.move rfl rfl ?_
    refine XO.move rfl rfl ?_
    refine XO.nilCheckP rfl rfl ?_
    refine XO.fieldAddr rfl fa_58_0 rfl ?_
    refine XO.loadO 0 rfl rfl ty_27 rfl rfl rfl ?_
    refine XO.lenS (ts := #[]) rfl Try.underlying27 rfl ?_
    refine XO.convI (c := ((rT5.length : Nat) : Int)) rfl Try.underlying3 Try.underlying68 (wrap_u64 (by omega) (by omega)) rfl ?_
    refine XO.leq rfl rfl rfl ?_
    by_cases hwb : xT5 ≤ rT5.length
    · skip
      refine XO.callV rfl (want_ok _ _ (decide_eq_true (by omega)) _) rfl ?_
      refine XO.nil ?_
      refine XC.seq2 ?_
      refine XC.seq ?_
      refine XC.region ?_
      refine XO.move rfl rfl ?_
      refine XO.convI (c := ((xT5 : Nat) : Int)) rfl Try.underlying68 Try.underlying3 (wrap_i64 (by omega) (by omega)) rfl ?_
      refine XO.assign rfl rfl ?_
      refine XO.nil ?_
      refine XC.seq2 ?_
      refine XC.ret ?_
      refine ⟨rfl, _, [_], rfl, (by repeat (first | exact List.Sublist.refl _ | apply List.Sublist.cons_cons | apply List.Sublist.cons)), ?_⟩
      exact DecR.ret (by unfold lenG; rw [hoT5]; exact if_pos hwb) hsT5 rfl
    · skip
      refine XO.callP rfl (want_bad _ _ (decide_eq_false (by omega)) _) rfl (fun HB hleB => ?_)
      have hnone : lenG b = none := by unfold lenG; rw [hoT5]; exact if_neg hwb
      replace hs := hs.mono hleB
      replace hsT5 := hsT5.mono hleB
      refine seqX_panic ?_
      refine ⟨rfl, [], (by repeat (first | exact List.Sublist.refl _ | apply List.Sublist.cons)), DecR.pan hnone⟩
  · intro HT5 hleT5 hno
    have hnone : lenG b = none := by unfold lenG; rw [hno]
    replace hs := hs.mono hleT5
    refine seqX_panic ?_
    refine ⟨rfl, [], (by repeat (first | exact List.Sublist.refl _ | apply List.Sublist.cons)), DecR.pan hnone⟩

end Go.Proofs

/- Lists of values, read one after the other. -/
set_option autoImplicit false
set_option linter.unusedVariables false
set_option linter.unusedSimpArgs false
namespace Go.Proofs
open Go.XL
section
variable {d : Nat} {c : UInt8} {r r2 r3 : List UInt8} {u : Nat} {l : List Val}
theorem valP_nil : valP d [] = none := by cases d <;> rw [valP]
theorem valP1n (h : c.toNat = 1) (h2 : numG r = none) : valP d (c :: r) = none := by cases d <;> rw [valP, if_pos h, h2]
theorem valP1s (h : c.toNat = 1) (h2 : numG r = some (u, r2)) : valP d (c :: r) = some (.mk 1 (sgnV u) [] [], r2) := by cases d <;> rw [valP, if_pos h, h2]
theorem valP2n (h : c.toNat = 2) (h2 : lenG r = none) : valP d (c :: r) = none := by cases d <;> rw [valP, if_neg (by omega), if_pos h, h2]
theorem valP2s (h : c.toNat = 2) (h2 : lenG r = some (u, r2)) : valP d (c :: r) = some (.mk 2 0 (r2.take u) [], r2.drop u) := by cases d <;> rw [valP, if_neg (by omega), if_pos h, h2]
theorem valP30 (h : c.toNat = 3) : valP 0 (c :: r) = none := by rw [valP, if_neg (by omega), if_neg (by omega)]
theorem valP3z (hz : ¬ 0 < d) (h : c.toNat = 3) : valP d (c :: r) = none := by
  obtain rfl : d = 0 := by omega
  exact valP30 h
theorem valP3n (h : c.toNat = 3) (h2 : lenG r = none) : valP d (c :: r) = none := by
  cases d with
  | zero => exact valP30 h
  | succ d => rw [valP, if_neg (by omega), if_neg (by omega), if_pos h, h2]
theorem valP3i (h : c.toNat = 3) (h2 : lenG r = some (u, r2)) (h3 : iterP (valP d) u r2 = none) : valP (d + 1) (c :: r) = none := by
  rw [valP, if_neg (by omega), if_neg (by omega), if_pos h, h2]; simp only; rw [h3]
theorem valP3s (h : c.toNat = 3) (h2 : lenG r = some (u, r2)) (h3 : iterP (valP d) u r2 = some (l, r3)) : valP (d + 1) (c :: r) = some (.mk 3 0 [] l, r3) := by
  rw [valP, if_neg (by omega), if_neg (by omega), if_pos h, h2]; simp only; rw [h3]
theorem valP0 (h : c.toNat ≠ 1 ∧ c.toNat ≠ 2 ∧ c.toNat ≠ 3) : valP d (c :: r) = none := by
  cases d with
  | zero => rw [valP, if_neg (by omega), if_neg (by omega)]
  | succ d => rw [valP, if_neg (by omega), if_neg (by omega), if_neg (by omega)]
end
theorem takP_len {n : Nat} {b : List UInt8} (h : takP n b = none) : ¬ n ≤ b.length := by
  unfold takP at h
  intro hn
  rw [if_pos hn] at h; cases h
theorem takP_eq {n : Nat} {b x r : List UInt8} (h : takP n b = some (x, r)) : x = b.take n ∧ r = b.drop n := by
  unfold takP at h
  split at h
  · cases h; exact ⟨rfl, rfl⟩
  · cases h
/-- j of n values are read -/
def itS (f : List UInt8 → Option (Val × List UInt8)) (n : Nat) (r0 : List UInt8) (j : Nat) (L : List Val) (b : List UInt8) : Prop :=
  iterP f n r0 = match iterP f (n - j) b with | none => none | some (l, r) => some (L ++ l, r)
section
variable {f : List UInt8 → Option (Val × List UInt8)} {n j : Nat} {r0 b r : List UInt8} {L : List Val} {v : Val}
theorem itS_0 : itS f n r0 0 [] r0 := by
  unfold itS
  rw [Nat.sub_zero]
  cases iterP f n r0 with
  | none => rfl
  | some q => rfl
theorem itS_none (h : itS f n r0 j L b) (hj : j < n) (hf : f b = none) : iterP f n r0 = none := by
  unfold itS at h
  rw [h, show n - j = (n - (j + 1)) + 1 by omega, iterP, hf]
theorem itS_step (h : itS f n r0 j L b) (hj : j < n) (hf : f b = some (v, r)) : itS f n r0 (j + 1) (L ++ [v]) r := by
  unfold itS at h ⊢
  rw [h, show n - j = (n - (j + 1)) + 1 by omega, iterP, hf]
  simp only
  cases iterP f (n - (j + 1)) r with
  | none => rfl
  | some q => simp
theorem itS_end (h : itS f n r0 n L b) : iterP f n r0 = some (L, b) := by
  unfold itS at h
  rw [h, Nat.sub_self, iterP]; simp
end
theorem valP_len {d m : Nat} {b r : List UInt8} {w : Val} (h : valP d b = some (w, r)) (hb : b.length ≤ m) : r.length ≤ m := by
  have := congrArg List.length (valP_of h).1
  rw [List.length_append] at this
  omega
/-- the reader while a value of a list is read and put into a literal -/
def FOv (br : Nat) (o : Option (Val × List UInt8)) (s0 : SObj) (j : Nat) (v : Value) (p : Nat × SObj) (H : Hp) : Prop :=
  (j = 0 → p = (br, s0)) ∧
  (j = 1 → ∃ w r a c, o = some (w, r) ∧ p = (br, .cells 58 [.slice a r.length c]) ∧ SlR u8R H a c r ∧ VV H v w) ∧
  (j = 2 → ∃ w r a c a2 c2, o = some (w, r) ∧ p = (br, .cells 58 [.slice a r.length c]) ∧ SlR u8R H a c r ∧ v = .slice a2 [w].length c2 ∧ SlR valR H a2 c2 [w])
theorem FOv_mono (br : Nat) (o : Option (Val × List UInt8)) (s0 : SObj) : ∀ (j : Nat) (v : Value) (p : Nat × SObj) (H H' : Hp), Le H H' → FOv br o s0 j v p H → FOv br o s0 j v p H' := by
  rintro j v p H H' hle ⟨h0, h1, h2⟩
  refine ⟨h0, fun hj => ?_, fun hj => ?_⟩
  · obtain ⟨w, r, a, c, e1, e2, e3, e4⟩ := h1 hj
    exact ⟨w, r, a, c, e1, e2, e3.mono hle, e4.mono hle⟩
  · obtain ⟨w, r, a, c, a2, c2, e1, e2, e3, e4, e5⟩ := h2 hj
    exact ⟨w, r, a, c, a2, c2, e1, e2, e3.mono hle, e4, e5.mono hle⟩
theorem FOv_0 {br : Nat} {o : Option (Val × List UInt8)} {s0 : SObj} {v : Value} {H : Hp} : FOv br o s0 0 v (br, s0) H := ⟨fun _ => rfl, fun h => absurd h (by decide), fun h => absurd h (by decide)⟩
theorem FOv_1 {br : Nat} {o : Option (Val × List UInt8)} {s0 : SObj} {v : Value} {H : Hp} {w : Val} {r : List UInt8} {a : Option Addr} {c : Nat} (h1 : o = some (w, r)) (h2 : SlR u8R H a c r) (h3 : VV H v w) : FOv br o s0 1 v (br, .cells 58 [.slice a r.length c]) H :=
  ⟨fun h => absurd h (by decide), fun _ => ⟨w, r, a, c, h1, rfl, h2, h3⟩, fun h => absurd h (by decide)⟩
theorem FOv_2 {br : Nat} {o : Option (Val × List UInt8)} {s0 : SObj} {H : Hp} {w : Val} {r : List UInt8} {a a2 : Option Addr} {c c2 n : Nat} (h1 : o = some (w, r)) (h2 : SlR u8R H a c r) (h3 : SlR valR H a2 c2 [w]) (hn : n = [w].length) : FOv br o s0 2 (.slice a2 n c2) (br, .cells 58 [.slice a r.length c]) H :=
  ⟨fun h => absurd h (by decide), fun h => absurd h (by decide), fun _ => ⟨w, r, a, c, a2, c2, h1, rfl, h2, by rw [hn], h3⟩⟩
theorem dec_none {b : List UInt8} (h : valP 16 b = none) : decV b = (v0, 10) := by unfold decV; rw [h]
theorem dec_rest {b r : List UInt8} {w : Val} (h : valP 16 b = some (w, r)) (hr : ¬ r.length = 0) : decV b = (v0, 10) := by
  unfold decV; rw [h]
  cases r with
  | nil => exact absurd rfl hr
  | cons c r => rfl
theorem dec_all {b r : List UInt8} {w : Val} (h : valP 16 b = some (w, r)) (hr : r.length = 0) : decV b = (w, 0) := by
  unfold decV; rw [h]
  cases r with
  | nil => rfl
  | cons c r => cases hr
def DecVR (b : List UInt8) (H : Hp) (v : Value) : Prop := ∃ w, VV H w (decV b).1 ∧ v = .tuple #[w, .int .i64 (decV b).2]
theorem DecVR.no {b : List UInt8} {H : Hp} (h : decV b = (v0, 10)) : DecVR b H (.tuple #[.agg ⟨[.int .i64 0, .int .i64 0, .string (bsOf []), .slice none 0 0]⟩, .int .i64 10]) := by
  unfold DecVR; rw [h]; exact ⟨_, ⟨none, 0, rfl, SlR.nil0 _ _⟩, rfl⟩
theorem DecVR.yes {b : List UInt8} {w : Val} {H : Hp} {v : Value} (h : decV b = (w, 0)) (hv : VV H v w) : DecVR b H (.tuple #[v, .int .i64 0]) := by
  unfold DecVR; rw [h]; exact ⟨_, hv, rfl⟩
end Go.Proofs

/- The walks of the functions of the codec: what each of them computes, at any input. -/
set_option autoImplicit false
set_option linter.unusedVariables false
set_option linter.unusedSimpArgs false
namespace Go.Proofs
open Go.XL

theorem by_24 : Nat.ble (Try.prog.bytesOf 24) 4096 = true := by kernel_rfl

theorem value_all : ∀ (D : Nat) (br : Nat) (a : Option Addr) (c : Nat) (b : List UInt8) (H : Hp), D ≤ 16 → SlR u8R H a c b → b.length ≤ 1000000 → FnC Try.prog 32 #[.pointer (some ⟨br, 0, none⟩), .int .i64 ((16 : Int) - (D : Nat))] H [(br, .cells 58 [.slice a b.length c])] (DecR br (valP D b) (fun w H v => VV H v w)) := by
  intro D
  refine Nat.strongRecOn D ?_
  clear D
  intro D ih br a c b H hD hs hlen
  refine FnC.introC (args := [.pointer (some ⟨br, 0, none⟩), .int .i64 ((16 : Int) - (D : Nat))]) Try.func32 rfl rfl Try.ntmps32 rfl rfl rfl fun G rest => ?_
  refine XC.seq ?_
  refine XC.region ?_
  refine XO.alloc ze_24 rfl (fun b4 => ?_)
  refine XO.perm (List.Perm.swap _ _ _) ?_
  refine XO.nil ?_
  refine XC.seq2 ?_
  refine XC.seq ?_
  refine XC.region ?_
  refine XO.move rfl rfl ?_
  have hcall6 := take_fn br a c b 1 (by decide) _ hs hlen
  refine XO.callD rfl hcall6 rfl rfl ?_ ?_
  · intro HT6 hleT6 vT6 xT6 rT6 aT6 cT6 hoT6 hsT6 hvT6
    replace hs := hs.mono hleT6
    obtain ⟨aV6, cV6, rfl, hV6⟩ := hvT6
    obtain ⟨y6, rfl, rfl⟩ := take1 hoT6
    have hl6 : rT6.length ≤ 1000000 := by simp only [List.length_cons] at hlen; omega
    have hc6 := toNat_lt y6
    have hy1 : [y6].length = 1 := rfl
    refine XO.indexN (i := 0) rfl hV6 rfl Try.underlying27 ty_5 (by omega) rfl ?_
    rintro eb7 eo7 _ x7 hx7 rfl hp7
    obtain rfl : y6 = x7 := by simpa using hx7
    refine XO.loadH rfl (by assumption) ty_5 rfl rfl rfl ?_
    refine XO.convI (c := ((y6.toNat : Nat) : Int)) rfl Try.underlying5 Try.underlying3 (wrap_i64 (by omega) (by omega)) rfl ?_
    refine XO.fieldAddr rfl fa_24_0 rfl ?_
    refine XO.storeO 1 rfl rfl rfl rfl ty_3 rfl rfl rfl rfl rfl ?_
    refine XO.nil ?_
    refine XC.seq2 ?_
    refine XC.seq ?_
    refine XC.seq ?_
    refine XC.region ?_
    refine XO.fieldAddr rfl fa_24_0 rfl ?_
    refine XO.loadO 1 rfl rfl ty_3 rfl rfl rfl ?_
    refine XO.nil ?_
    refine XC.seq2 ?_
    refine XC.block ?_
    refine XC.seq ?_
    refine XC.region ?_
    refine XO.eql rfl rfl rfl ?_
    refine XO.assign rfl rfl ?_
    refine XO.nil ?_
    refine XC.seq2 ?_
    refine XC.cond rfl (fun c0_3 => ?_) (fun c0_3 => ?_)
    · have hk1 : y6.toNat = 1 := by omega
      refine XC.region ?_
      refine XO.move rfl rfl ?_
      have hcall18 := number_fn br aT6 cT6 rT6 _ hsT6 hl6
      refine XO.callD rfl hcall18 rfl rfl ?_ ?_
      · intro HT18 hleT18 vT18 xT18 rT18 aT18 cT18 hoT18 hsT18 hvT18
        replace hs := hs.mono hleT18
        replace hsT6 := hsT6.mono hleT18
        replace hV6 := hV6.mono hleT18
        replace hp7 := hp7.mono hleT18
        have hul := (numG_of hoT18).2
        subst hvT18
        refine XO.callV rfl (sgn_fn _ (by omega) _) rfl ?_
        refine XO.fieldAddr rfl fa_24_1 rfl ?_
        refine XO.storeO 1 rfl rfl rfl rfl ty_3 rfl rfl rfl rfl rfl ?_
        refine XO.nil ?_
        refine blockN ?_
        refine XC.seq2 ?_
        refine XC.seq ?_
        refine XC.region ?_
        refine XO.loadO 1 rfl rfl ty_24 rfl rfl rfl ?_
        refine XO.storeO 1 rfl rfl rfl rfl ty_24 rfl rfl rfl rfl rfl ?_
        refine XO.nil ?_
        refine XC.seq2 ?_
        refine XC.ret ?_
        refine ⟨rfl, _, [_], (resC_cell 1 rfl rfl ty_24 rfl rfl resC_nil), (by repeat (first | exact List.Sublist.refl _ | apply List.Sublist.cons_cons | apply List.Sublist.cons)), ?_⟩
        exact DecR.ret (valP1s hk1 hoT18) hsT18 ⟨none, 0, by rw [hk1]; rfl, SlR.nil0 _ _⟩
      · intro HT18 hleT18 hno
        have hnone : valP D (y6 :: rT6) = none := valP1n hk1 hno
        replace hs := hs.mono hleT18
        replace hsT6 := hsT6.mono hleT18
        replace hV6 := hV6.mono hleT18
        replace hp7 := hp7.mono hleT18
        refine blockP ?_
        refine seqX_panic ?_
        refine ⟨rfl, [], (by repeat (first | exact List.Sublist.refl _ | apply List.Sublist.cons)), DecR.pan hnone⟩
    · refine XC.seq ?_
      refine XC.region ?_
      refine XO.eql rfl rfl rfl ?_
      refine XO.assign rfl rfl ?_
      refine XO.nil ?_
      refine XC.seq2 ?_
      refine XC.cond rfl (fun c1_5 => ?_) (fun c1_5 => ?_)
      · have hk2 : y6.toNat = 2 := by omega
        refine XC.region ?_
        refine XO.move rfl rfl ?_
        refine XO.move rfl rfl ?_
        have hcall25 := length_fn br aT6 cT6 rT6 _ hsT6 hl6
        refine XO.callD rfl hcall25 rfl rfl ?_ ?_
        · intro HT25 hleT25 vT25 xT25 rT25 aT25 cT25 hoT25 hsT25 hvT25
          replace hs := hs.mono hleT25
          replace hsT6 := hsT6.mono hleT25
          replace hV6 := hV6.mono hleT25
          replace hp7 := hp7.mono hleT25
          obtain ⟨hlb25, hul⟩ := lenG_of hoT25
          have hl25 := congrArg List.length hlb25
          rw [List.length_append] at hl25
          subst hvT25
          have hcall26 := take_fn br aT25 cT25 rT25 xT25 (by omega) _ hsT25 (by omega)
          refine XO.callD rfl hcall26 rfl rfl ?_ ?_
          · intro HT26 hleT26 vT26 xT26 rT26 aT26 cT26 hoT26 hsT26 hvT26
            replace hs := hs.mono hleT26
            replace hsT6 := hsT6.mono hleT26
            replace hV6 := hV6.mono hleT26
            replace hp7 := hp7.mono hleT26
            replace hsT25 := hsT25.mono hleT26
            obtain ⟨aV26, cV26, rfl, hV26⟩ := hvT26
            obtain ⟨rfl, rfl⟩ := takP_eq hoT26
            refine XO.b2s rfl hV26 Try.underlying27 Try.underlying5 Try.underlying9 rfl ?_
            refine XO.fieldAddr rfl fa_24_2 rfl ?_
            refine XO.storeO 1 rfl rfl rfl rfl ty_9 rfl rfl rfl rfl rfl ?_
            refine XO.nil ?_
            refine blockN ?_
            refine XC.seq2 ?_
            refine XC.seq ?_
            refine XC.region ?_
            refine XO.loadO 1 rfl rfl ty_24 rfl rfl rfl ?_
            refine XO.storeO 1 rfl rfl rfl rfl ty_24 rfl rfl rfl rfl rfl ?_
            refine XO.nil ?_
            refine XC.seq2 ?_
            refine XC.ret ?_
            refine ⟨rfl, _, [_], (resC_cell 1 rfl rfl ty_24 rfl rfl resC_nil), (by repeat (first | exact List.Sublist.refl _ | apply List.Sublist.cons_cons | apply List.Sublist.cons)), ?_⟩
            exact DecR.ret (valP2s hk2 hoT25) hsT26 ⟨none, 0, by rw [hk2]; rfl, SlR.nil0 _ _⟩
          · intro HT26 hleT26 hno
            have hnone : valP D (y6 :: rT6) = none := absurd hul (takP_len hno)
            replace hs := hs.mono hleT26
            replace hsT6 := hsT6.mono hleT26
            replace hV6 := hV6.mono hleT26
            replace hp7 := hp7.mono hleT26
            replace hsT25 := hsT25.mono hleT26
            refine blockP ?_
            refine seqX_panic ?_
            refine ⟨rfl, [], (by repeat (first | exact List.Sublist.refl _ | apply List.Sublist.cons)), DecR.pan hnone⟩
        · intro HT25 hleT25 hno
          have hnone : valP D (y6 :: rT6) = none := valP2n hk2 hno
          replace hs := hs.mono hleT25
          replace hsT6 := hsT6.mono hleT25
          replace hV6 := hV6.mono hleT25
          replace hp7 := hp7.mono hleT25
          refine blockP ?_
          refine seqX_panic ?_
          refine ⟨rfl, [], (by repeat (first | exact List.Sublist.refl _ | apply List.Sublist.cons)), DecR.pan hnone⟩
      · refine XC.seq ?_
        refine XC.region ?_
        refine XO.eql rfl rfl rfl ?_
        refine XO.assign rfl rfl ?_
        refine XO.nil ?_
        refine XC.seq2 ?_
        refine XC.cond rfl (fun c2_6 => ?_) (fun c2_6 => ?_)
        · have hk3 : y6.toNat = 3 := by omega
          refine XC.seq ?_
          refine XC.region ?_
          refine XO.move rfl rfl ?_
          refine XO.move rfl rfl ?_
          refine XO.lss rfl rfl rfl ?_
          by_cases hwb : 0 < D
          · skip
            refine XO.callV rfl (want_ok _ _ (decide_eq_true (by omega)) _) rfl ?_
            obtain ⟨E, rfl⟩ : ∃ E, D = E + 1 := ⟨D - 1, by omega⟩
            refine XO.nil ?_
            refine XC.seq2 ?_
            refine XC.seq ?_
            refine XC.region ?_
            refine XO.move rfl rfl ?_
            have hcall36 := length_fn br aT6 cT6 rT6 _ hsT6 hl6
            refine XO.callD rfl hcall36 rfl rfl ?_ ?_
            · intro HT36 hleT36 vT36 xT36 rT36 aT36 cT36 hoT36 hsT36 hvT36
              replace hs := hs.mono hleT36
              replace hsT6 := hsT6.mono hleT36
              replace hV6 := hV6.mono hleT36
              replace hp7 := hp7.mono hleT36
              obtain ⟨hlb36, hul⟩ := lenG_of hoT36
              have hl36 := congrArg List.length hlb36
              rw [List.length_append] at hl36
              subst hvT36
              refine XO.move rfl rfl ?_
              refine XO.open0 (σ := []) (fun b0 => ?_)
              refine XO.perm (List.Perm.swap _ _ _) ?_
              refine XO.nil ?_
              refine XC.seq2 ?_
              refine XC.block ?_
              refine XC.keep [37, 0, 1, 4, 36] rfl ?_
              refine XC.loop (base := [(0, _), (1, _), (4, _), (36, _)]) (fun ζ : Nat × (Nat × SObj) × (Option Addr) × (Nat) × (List Val) × (List UInt8) × (Option Addr) × (Nat) => [(37, .int .i64 (ζ.1 : Nat))]) (fun ζ Hl own => (br, .cells 58 [.slice ζ.2.2.2.2.2.2.1 ζ.2.2.2.2.2.1.length ζ.2.2.2.2.2.2.2]) :: ζ.2.1 :: (b4, .cells 24 [.int .i64 (y6.toNat : Nat), .int .i64 0, .string (bsOf []), .slice ζ.2.2.1 ζ.2.2.2.2.1.length ζ.2.2.2.1]) :: rest = own ∧ (ζ.1 ≤ xT36) ∧ (SlR u8R Hl ζ.2.2.2.2.2.2.1 ζ.2.2.2.2.2.2.2 ζ.2.2.2.2.2.1) ∧ (ζ.2.2.2.2.2.1.length ≤ 1000000) ∧ (itS (valP E) xT36 rT36 ζ.1 ζ.2.2.2.2.1 ζ.2.2.2.2.2.1) ∧ (XL.Acc valR 24 Hl ζ.2.1 ζ.2.2.1 ζ.2.2.2.1 ζ.2.2.2.2.1) ∧ (ζ.2.2.2.2.1.length = ζ.1)) (fun ζ => xT36 - ζ.1) (0, (b0, .nothing), none, 0, [], rT36, aT36, cT36) (prov_cons (rfl) (prov_cons (rfl) (prov_cons (rfl) (prov_cons (rfl) (prov_cons (rfl) prov_nil))))) (by repeat (first | exact List.Sublist.refl _ | apply List.Sublist.cons_cons | apply List.Sublist.cons)) ⟨rfl, Nat.zero_le _, hsT36, by show rT36.length ≤ 1000000; omega, itS_0, Acc.nil _ _ _ _, rfl⟩ ?_
              rintro ⟨j, po, ao, co, L, bb, aa, cc⟩ Hl0 _ hle0 ⟨rfl, hjle, hs2, hlb, hit, hacc, hLl⟩
              replace hs := hs.mono hle0
              replace hsT6 := hsT6.mono hle0
              replace hV6 := hV6.mono hle0
              replace hp7 := hp7.mono hle0
              replace hsT36 := hsT36.mono hle0
              try dsimp only at hjle hs2 hlb hit hacc hLl ⊢
              refine XC.seq ?_
              refine XC.region ?_
              refine XO.lss rfl rfl rfl ?_
              refine XO.nil ?_
              refine XC.seq2 ?_
              refine XC.seq ?_
              refine XC.cond rfl (fun c3_7 => ?_) (fun c3_7 => ?_)
              · have hjn : j < xT36 := by omega
                refine XC.skip ?_
                refine XC.seq2 ?_
                refine XC.seq ?_
                refine XC.block ?_
                refine XC.keep [0, 1, 4, 36, 37] rfl ?_
                apply XC.drawP (fun ch σ => ch = PAN ∧ σ.df = [] ∧ List.Sublist rest σ.own ∧ valP (E + 1) (y6 :: rT6) = none) ?pan8 (fun _ => True) trivial [5, 6] (FOv br (valP E bb) (.cells 58 [.slice aa bb.length cc])) (FOv_mono _ _ _) 7 [eqF _, eqF _, eqF _, eqF _, eqF _, anyF, anyF] follows (by kernel_rfl) ⟨eqF_mono _, eqF_mono _, eqF_mono _, eqF_mono _, eqF_mono _, anyF_mono, anyF_mono, trivial⟩ (by kernel_rfl) (FOv_0) ?steps8 ?tail8
                case pan8 =>
                  rintro ch σ hle ⟨rfl, h1, h2, h3⟩
                  refine blockP ?_
                  refine seqX_panic ?_
                  refine loopX_panic ?_
                  refine blockP ?_
                  refine blockP ?_
                  refine seqX_panic ?_
                  exact ⟨h1, [], h2, DecR.pan h3⟩
                case steps8 =>
                  refine stepsP_cons rfl ?_ ?_
                  · intro X e HD hleD _
                    replace hs := hs.mono hleD
                    replace hsT6 := hsT6.mono hleD
                    replace hV6 := hV6.mono hleD
                    replace hp7 := hp7.mono hleD
                    replace hsT36 := hsT36.mono hleD
                    replace hs2 := hs2.mono hleD
                    replace hacc := hacc.mono hleD
                    replace hle0 := hle0.trans hleD
                    refine withP_nil rfl ?_
                    intro hfa
                    refine XO.fieldAddr rfl fa_24_3 rfl ?_
                    refine XO.nil ?_
                    exact stepQP_ok trivial (rfl) (foQ_no rfl)
                  refine stepsP_cons rfl ?_ ?_
                  · intro X e HD hleD _
                    replace hs := hs.mono hleD
                    replace hsT6 := hsT6.mono hleD
                    replace hV6 := hV6.mono hleD
                    replace hp7 := hp7.mono hleD
                    replace hsT36 := hsT36.mono hleD
                    replace hs2 := hs2.mono hleD
                    replace hacc := hacc.mono hleD
                    replace hle0 := hle0.trans hleD
                    refine withP_cons rfl rfl ?_
                    rintro _ rfl
                    refine withP_nil rfl ?_
                    intro hfa
                    refine XO.loadO 2 rfl rfl ty_22 rfl rfl rfl ?_
                    refine XO.nil ?_
                    exact stepQP_ok trivial (rfl) (foQ_no rfl)
                  refine stepsP_cons rfl ?_ ?_
                  · intro X e HD hleD _
                    replace hs := hs.mono hleD
                    replace hsT6 := hsT6.mono hleD
                    replace hV6 := hV6.mono hleD
                    replace hp7 := hp7.mono hleD
                    replace hsT36 := hsT36.mono hleD
                    replace hs2 := hs2.mono hleD
                    replace hacc := hacc.mono hleD
                    replace hle0 := hle0.trans hleD
                    refine withP_nil rfl ?_
                    intro hfa
                    refine XO.move rfl rfl ?_
                    refine XO.nil ?_
                    exact stepQP_ok trivial (rfl) (foQ_no rfl)
                  refine stepsP_cons rfl ?_ ?_
                  · intro X e HD hleD _
                    replace hs := hs.mono hleD
                    replace hsT6 := hsT6.mono hleD
                    replace hV6 := hV6.mono hleD
                    replace hp7 := hp7.mono hleD
                    replace hsT36 := hsT36.mono hleD
                    replace hs2 := hs2.mono hleD
                    replace hacc := hacc.mono hleD
                    replace hle0 := hle0.trans hleD
                    refine withP_nil rfl ?_
                    intro hfa
                    refine XO.move rfl rfl ?_
                    refine XO.nil ?_
                    exact stepQP_ok trivial (rfl) (foQ_no rfl)
                  refine stepsP_cons rfl ?_ ?_
                  · intro X e HD hleD _
                    replace hs := hs.mono hleD
                    replace hsT6 := hsT6.mono hleD
                    replace hV6 := hV6.mono hleD
                    replace hp7 := hp7.mono hleD
                    replace hsT36 := hsT36.mono hleD
                    replace hs2 := hs2.mono hleD
                    replace hacc := hacc.mono hleD
                    replace hle0 := hle0.trans hleD
                    refine withP_cons rfl rfl ?_
                    rintro _ rfl
                    refine withP_nil rfl ?_
                    intro hfa
                    refine XO.add (c := ((16 : Int) - (E : Nat))) rfl rfl ((wrap_i64 (by omega) (by omega)).trans (by omega)) rfl ?_
                    refine XO.nil ?_
                    exact stepQP_ok trivial (rfl) (foQ_no rfl)
                  refine stepsP_cons rfl ?_ ?_
                  · intro X e HD hleD _
                    replace hs := hs.mono hleD
                    replace hsT6 := hsT6.mono hleD
                    replace hV6 := hV6.mono hleD
                    replace hp7 := hp7.mono hleD
                    replace hsT36 := hsT36.mono hleD
                    replace hs2 := hs2.mono hleD
                    replace hacc := hacc.mono hleD
                    replace hle0 := hle0.trans hleD
                    refine withP_cons rfl rfl ?_
                    rintro _ rfl
                    refine withP_cons rfl rfl ?_
                    rintro _ rfl
                    refine withP_nil rfl ?_
                    intro hfa
                    obtain rfl := (factQ_0 rfl hfa).1 rfl
                    have hcall := ih E (by omega) br aa cc bb _ (by omega) hs2 hlb
                    refine XO.callD rfl hcall rfl rfl ?_ ?_
                    · intro HT hleT vT xT rT aT cT hoT hsT hvT
                      refine XO.nil ?_
                      exact stepQP_ok trivial trivial (foQ_mod rfl (FOv_1 hoT hsT hvT))
                    · intro HT hleT hno
                      exact ⟨rfl, rfl, (by repeat (first | exact List.Sublist.refl _ | apply List.Sublist.cons_cons | apply List.Sublist.cons)), valP3i hk3 hoT36 (itS_none hit hjn hno)⟩
                  refine stepsP_cons rfl ?_ ?_
                  · intro X e HD hleD _
                    replace hs := hs.mono hleD
                    replace hsT6 := hsT6.mono hleD
                    replace hV6 := hV6.mono hleD
                    replace hp7 := hp7.mono hleD
                    replace hsT36 := hsT36.mono hleD
                    replace hs2 := hs2.mono hleD
                    replace hacc := hacc.mono hleD
                    replace hle0 := hle0.trans hleD
                    refine withP_cons rfl rfl ?_
                    rintro _ _
                    refine withP_nil rfl ?_
                    intro hfa
                    have hfb := factQ_s rfl hfa rfl rfl
                    obtain ⟨⟨kw, nw, sw, lw⟩, r5, a5, c5, h51, rfl, h53, aw, cw, rfl, hw⟩ := hfb.2.1 rfl
                    refine XO.buildSlice rfl Try.underlying22 ty_24 ze_24 rfl rfl rfl (fun b45 => ?_)
                    refine XO.publish 0 rfl rfl rfl (fun HP45 hoP45 hleP45 hbP45 hsoP45 => ?_)
                    have hsl45 := SlR.lit (ρ := valR) (l := [.mk kw nw sw lw]) hbP45 hsoP45 (RowsR.one1 (valR_iff.2 ⟨aw, cw, rfl, hw.mono hleP45⟩))
                    replace h53 := h53.mono hleP45
                    refine XO.nil ?_
                    exact stepQP_ok trivial (trivial) (foQ_mod rfl (by exact FOv_2 h51 h53 hsl45 rfl))
                  exact stepsP_end rfl
                case tail8 =>
                  intro HD hleD _
                  replace hs := hs.mono hleD
                  replace hsT6 := hsT6.mono hleD
                  replace hV6 := hV6.mono hleD
                  replace hp7 := hp7.mono hleD
                  replace hsT36 := hsT36.mono hleD
                  replace hs2 := hs2.mono hleD
                  replace hacc := hacc.mono hleD
                  replace hle0 := hle0.trans hleD
                  refine withP_cons rfl rfl ?_
                  rintro _ rfl
                  refine withP_cons rfl rfl ?_
                  rintro _ rfl
                  refine withP_cons rfl rfl ?_
                  rintro _ rfl
                  refine withP_cons rfl rfl ?_
                  rintro _ rfl
                  refine withP_cons rfl rfl ?_
                  rintro _ rfl
                  refine withP_cons rfl rfl ?_
                  rintro _ _
                  refine withP_cons rfl rfl ?_
                  rintro _ _
                  refine withP_nil rfl ?_
                  intro e he
                  have hfb := lastQ_s rfl he rfl rfl
                  obtain ⟨w, r5, a5, c5, a45, c45, h51, rfl, h53, rfl, hsl45⟩ := hfb.2.2 rfl
                  refine XO.appendA 1 rfl rfl hacc rfl rfl hsl45 rfl Try.underlying22 ty_24 ze_24 rfl by_24 (by simp; omega) rfl (fun p46 a46 c46 hacc46 => ?_)
                  refine XO.fieldAddr rfl fa_24_3 rfl ?_
                  refine XO.storeO 2 rfl rfl rfl rfl ty_22 rfl rfl rfl rfl rfl ?_
                  refine XO.nil ?_
                  refine blockN ?_
                  refine XC.seq2 ?_
                  refine XC.region ?_
                  refine XO.add rfl rfl (wrap_i64 (by omega) (by omega)) rfl ?_
                  refine XO.move rfl rfl ?_
                  refine XO.nil ?_
                  refine loop_next ((j + 1, p46, a46, c46, L ++ [w], r5, a5, c5)) (by show xT36 - (j + 1) < xT36 - j; omega) (prov_cons (rfl) (prov_cons (rfl) (prov_cons (rfl) (prov_cons (rfl) (prov_cons (rfl) prov_nil))))) (⟨rfl, by show j + 1 ≤ xT36; omega, h53, valP_len h51 hlb, itS_step hit hjn h51, hacc46, by simp [hLl]⟩) (by repeat (first | exact List.Sublist.refl _ | apply List.Sublist.cons_cons | apply List.Sublist.cons)) (hle0)
              · obtain rfl : j = xT36 := by omega
                refine XC.exit ?_
                refine seqX_exit ?_
                refine loopX_exit ?_
                refine blockHit rfl ?_
                refine blockN ?_
                refine XC.seq2 ?_
                refine XC.seq ?_
                refine XC.region ?_
                refine XO.publishA 1 rfl hacc rfl (fun HQ hleQ hsQ => ?_)
                replace hs := hs.mono hleQ
                replace hsT6 := hsT6.mono hleQ
                replace hV6 := hV6.mono hleQ
                replace hp7 := hp7.mono hleQ
                replace hsT36 := hsT36.mono hleQ
                replace hs2 := hs2.mono hleQ
                replace hle0 := hle0.trans hleQ
                refine XO.loadO 1 rfl rfl ty_24 rfl rfl rfl ?_
                refine XO.storeO 1 rfl rfl rfl rfl ty_24 rfl rfl rfl rfl rfl ?_
                refine XO.nil ?_
                refine XC.seq2 ?_
                refine XC.ret ?_
                refine ⟨rfl, _, [_], (resC_cell 1 rfl rfl ty_24 rfl rfl resC_nil), (by repeat (first | exact List.Sublist.refl _ | apply List.Sublist.cons_cons | apply List.Sublist.cons)), ?_⟩
                exact DecR.ret (valP3s hk3 hoT36 (itS_end hit)) hs2 ⟨_, _, by rw [hk3]; rfl, hsQ⟩
            · intro HT36 hleT36 hno
              have hnone : valP (E + 1) (y6 :: rT6) = none := valP3n hk3 hno
              replace hs := hs.mono hleT36
              replace hsT6 := hsT6.mono hleT36
              replace hV6 := hV6.mono hleT36
              replace hp7 := hp7.mono hleT36
              refine seqX_panic ?_
              refine blockP ?_
              refine seqX_panic ?_
              refine ⟨rfl, [], (by repeat (first | exact List.Sublist.refl _ | apply List.Sublist.cons)), DecR.pan hnone⟩
          · skip
            refine XO.callP rfl (want_bad _ _ (decide_eq_false (by omega)) _) rfl (fun HB hleB => ?_)
            have hnone : valP D (y6 :: rT6) = none := valP3z hwb hk3
            replace hs := hs.mono hleB
            replace hsT6 := hsT6.mono hleB
            replace hV6 := hV6.mono hleB
            replace hp7 := hp7.mono hleB
            refine seqX_panic ?_
            refine blockP ?_
            refine seqX_panic ?_
            refine ⟨rfl, [], (by repeat (first | exact List.Sublist.refl _ | apply List.Sublist.cons)), DecR.pan hnone⟩
        · refine XC.region ?_
          refine XO.move rfl rfl ?_
          refine XO.callP rfl (want_bad _ _ rfl _) rfl (fun HB hleB => ?_)
          have hnone : valP D (y6 :: rT6) = none := valP0 (by omega)
          refine blockP ?_
          refine seqX_panic ?_
          refine ⟨rfl, [], (by repeat (first | exact List.Sublist.refl _ | apply List.Sublist.cons)), DecR.pan hnone⟩
  · intro HT6 hleT6 hno
    have hnone : valP D b = none := by rw [take0 hno, valP_nil]
    replace hs := hs.mono hleT6
    refine seqX_panic ?_
    refine ⟨rfl, [], (by repeat (first | exact List.Sublist.refl _ | apply List.Sublist.cons)), DecR.pan hnone⟩

end Go.Proofs

/- Deferred closures that change two result cells. No statement of the program stands here. -/
set_option autoImplicit false
set_option linter.unusedSimpArgs false
set_option linter.unusedVariables false
namespace Go.XL
theorem leaveD_two {P : Program} {rs : List ResultVar} {R : Ending → Hp → Own → Prop} {rest rest' : Own} {u : FrameMode} {env : Env} {H : Hp} {L L2 own : Own} {ms : List Nat} {f : FuncId} {cap dargs ags : Array Value} {p q : Nat × SObj} (hL : own = L ++ rest') (hrest : rest' = rest ++ ms.map hid) (hp : L.Perm (p :: q :: L2)) (ha : dargs ++ cap = ags)
    (hD : FnD P f ags u H [p, q] fun u' H' own1' => settle u' = .returning ∧ ∃ p' q' vs, own1' = [p', q'] ∧ resC P env (p' :: q' :: (L2 ++ rest)) rs vs ∧ R (.returned (resV vs)) H' []) :
    leaveD P rs R rest u ⟨env, ⟨.fn (.func f) cap, dargs⟩ :: ms.map mark, H, own⟩ := by
  subst hL; subst hrest; subst ha
  refine ⟨f, cap, dargs, ms, [p, q], L2 ++ rest, rfl, ?_, ?_⟩
  · have := hp.append_right (rest ++ ms.map hid)
    simpa using this
  · refine hD.mono ?_
    rintro u' H' own' _ ⟨h1, p', q', vs, rfl, h2, h3⟩
    exact ⟨h1, vs, [], h2, ((List.sublist_append_right _ _).cons _).cons _, h3⟩
section
variable {C : Ctx} {ops : Array Oper} {Q : Exit → St → Prop} {rest : List Oper} {env : Env} {df : List Deferred} {H : Hp} {own : Own} {dst : Option Tmp} {ty : TypeId} {pos : String} {af : Array Edge}
theorem XO.deferV {x : Operand} {f : FuncId} {cs : Array Value} {xs : List Operand} {ts : Array TypeId} {vs : List Value} {L rst : Own} (hr : C.r = none) (hh : C.hid = []) (hx : ev env x = some (.func (.func f) #[] cs)) (hxs : evs env xs = some vs) (ho : own = L ++ rst) (hd : dst = none)
    (h : ∀ ms rst', rst' = rst ++ List.map hid ms → XO C ops Q rest ⟨env, ⟨.fn (.func f) cs, vs.toArray⟩ :: ms.map mark, H, L ++ rst'⟩) :
    XO C ops Q (⟨dst, .defer { callee := .value x, args := xs.toArray, argTypes := ts }, ty, pos, af, none⟩ :: rest) ⟨env, [], H, own⟩ := by
  intro a w hrel
  refine wpListIn_plain rfl fun K hK => ⟨fun _ _ => trivial, ?_⟩
  obtain ⟨ms, hdf, hok⟩ := hrel.ok
  subst ho; subst hd
  have hrun : (Oper.semAt (Fr C.r).round a.eval ⟨none, .defer { callee := .value x, args := xs.toArray, argTypes := ts }, ty, pos, af, none⟩).run C.P w = .ok (.defer ⟨.fn (.func f) cs, vs.toArray⟩) w := by
    rw [show (Fr C.r).round = none from hr, Oper.semAt_none]
    simp only [execOp, resolve, Sem.run_bind]
    have : xs.toArray.map a.eval = vs.toArray := by simp [hrel.evals hxs]
    simp [this, hrel.eval hx, Deferred.ofValue, Sem.run, Pure.pure, Result.andThen]
  rw [hrun]
  have hrel2 : Rel C ⟨env, ⟨.fn (.func f) cs, vs.toArray⟩ :: ms.map mark, H, L ++ (rst ++ ms.map hid)⟩ ({ a with defers := ⟨.fn (.func f) cs, vs.toArray⟩ :: a.defers }.put none undef) w := by
    refine ⟨hrel.size, hrel.get, [], ?_, ?_⟩
    · show ⟨.fn (.func f) cs, vs.toArray⟩ :: a.defers = _
      rw [hdf]; simp
    · rw [hh] at hok ⊢
      simpa using hok
  exact hK _ _ (h ms _ rfl _ w hrel2)
end
end Go.XL

/- The walks of the functions of the codec: what each of them computes, at any input. -/
set_option autoImplicit false
set_option linter.unusedVariables false
set_option linter.unusedSimpArgs false
namespace Go.Proofs
open Go.XL

theorem bf_58 : structF Try.prog 58 = some [(0, 1)] := by kernel_rfl
theorem bk_58 : structK Try.prog 58 = true := by kernel_rfl
theorem ty_28 : tyF Try.prog 28 1 false = true := by kernel_rfl
theorem ze_28 : zeroC Try.prog 28 = some [.int .i64 0] := by kernel_rfl
theorem ze_58 : zeroC Try.prog 58 = some [.slice none 0 0] := by kernel_rfl

theorem d31_ret (b2 b3 : Nat) (v1 v2 v3 v4 v5 : Value) (H : Hp) : FnD Try.prog 31 #[.pointer (some ⟨b2, 0, none⟩), .pointer (some ⟨b3, 0, none⟩)] (.returning) H [(b2, .cells 24 [v1, v2, v3, v4]), (b3, .cells 28 [v5])] (fun u _ own => u = .returning ∧ own = [(b2, .cells 24 [v1, v2, v3, v4]), (b3, .cells 28 [v5])]) := by
  refine FnD.intro (args := [.pointer (some ⟨b2, 0, none⟩), .pointer (some ⟨b3, 0, none⟩)]) Try.func31 rfl rfl Try.ntmps31 rfl rfl rfl fun G rest => ?_
  refine XS.seq ?_
  refine XS.recover rfl rfl ?_
  refine XO.assign rfl rfl ?_
  refine XO.nil ?_
  refine XS.of rfl ?_
  refine XC.seq ?_
  refine XC.region ?_
  refine XO.move rfl rfl ?_
  refine XO.neqNilI rfl (Or.inl ⟨rfl, rfl⟩) Try.underlying20 rfl ?_
  refine XO.nil ?_
  refine XC.seq2 ?_
  refine XC.condF rfl (rfl) ?_
  refine XC.skip ?_
  refine ⟨rfl, _, [(b2, .cells 24 [v1, v2, v3, v4]), (b3, .cells 28 [v5])], rfl, (by repeat (first | exact List.Sublist.refl _ | apply List.Sublist.cons)), ?_⟩
  exact ⟨rfl, rfl⟩

theorem d31_pan (b2 b3 : Nat) (v1 v2 v3 v4 v5 : Value) (H : Hp) : FnD Try.prog 31 #[.pointer (some ⟨b2, 0, none⟩), .pointer (some ⟨b3, 0, none⟩)] (.panicking PAN) H [(b2, .cells 24 [v1, v2, v3, v4]), (b3, .cells 28 [v5])] (fun u _ own => settle u = .returning ∧ own = [(b2, .cells 24 [.int .i64 0, .int .i64 0, .string (bsOf []), .slice none 0 0]), (b3, .cells 28 [.int .i64 10])]) := by
  refine FnD.intro (args := [.pointer (some ⟨b2, 0, none⟩), .pointer (some ⟨b3, 0, none⟩)]) Try.func31 rfl rfl Try.ntmps31 rfl rfl rfl fun G rest => ?_
  refine XS.seq ?_
  refine XS.recover rfl rfl ?_
  refine XO.assign rfl rfl ?_
  refine XO.nil ?_
  refine XS.of rfl ?_
  refine XC.seq ?_
  refine XC.region ?_
  refine XO.move rfl rfl ?_
  refine XO.neqNilI rfl (Or.inr ⟨_, _, rfl, rfl⟩) Try.underlying20 rfl ?_
  refine XO.nil ?_
  refine XC.seq2 ?_
  refine XC.condT rfl (rfl) ?_
  refine XC.keep [0, 1, 2] rfl ?_
  apply XC.drawS (fun _ => True) trivial 3 (fun p _ => p = (b2, .cells 24 [v1, v2, v3, v4])) (fun p _ => p = (b2, .cells 24 [.int .i64 0, .int .i64 0, .string (bsOf []), .slice none 0 0]) ∧ True) (fun _ _ _ _ h => h) (fun _ _ _ _ h => h) 4 [eqF _, eqF _, eqF _, anyF] follows (by kernel_rfl) ⟨eqF_mono _, eqF_mono _, eqF_mono _, anyF_mono, trivial⟩ rfl (rfl) ?steps1 ?tail1
  case steps1 =>
    refine stepsS_cons rfl ?_ ?_
    · intro X e HD hleD _ hfa
      refine withP_nil rfl ?_
      refine XO.build bk_24 bf_24 ze_24 rfl rfl rfl ?_
      refine XO.nil ?_
      exact stepQV_ok trivial (rfl) (by unfold foS; rw [if_neg (by decide)])
    refine stepsS_cons rfl ?_ ?_
    · intro X e HD hleD _ hfa
      refine withP_nil rfl ?_
      refine XO.move rfl rfl ?_
      refine XO.nil ?_
      exact stepQV_ok trivial (rfl) (by unfold foS; rw [if_neg (by decide)])
    refine stepsS_cons rfl ?_ ?_
    · intro X e HD hleD _ hfa
      refine withP_cons rfl rfl ?_
      rintro _ rfl
      refine withP_nil rfl ?_
      refine XO.assertVal rfl Try.underlying28 rfl ?_
      refine XO.nil ?_
      exact stepQV_ok trivial (rfl) (by unfold foS; rw [if_neg (by decide)])
    refine stepsS_cons rfl ?_ ?_
    · intro X e HD hleD _ hfa
      refine withP_cons rfl rfl ?_
      rintro _ rfl
      refine withP_nil rfl ?_
      replace hfa := hfa (Or.inl rfl)
      subst hfa
      refine XO.storeO 0 rfl rfl rfl rfl ty_24 rfl rfl rfl rfl rfl ?_
      refine XO.nil ?_
      exact stepQV_ok trivial (trivial) (by unfold foS; rw [if_pos rfl]; exact ⟨rfl, trivial⟩)
    exact stepsS_end rfl
  case tail1 =>
    intro HD hleD _
    refine withP_cons rfl rfl ?_
    rintro _ rfl
    refine withP_cons rfl rfl ?_
    rintro _ rfl
    refine withP_cons rfl rfl ?_
    rintro _ rfl
    refine withP_skip rfl rfl ?_
    refine withP_nil rfl ?_
    intro e he
    obtain ⟨rfl, _⟩ := he
    refine XO.storeO 1 rfl rfl rfl rfl ty_28 rfl rfl rfl rfl rfl ?_
    refine XO.nil ?_
    refine ⟨rfl, _, [(b2, .cells 24 [.int .i64 0, .int .i64 0, .string (bsOf []), .slice none 0 0]), (b3, .cells 28 [.int .i64 10])], rfl, (by repeat (first | exact List.Sublist.refl _ | apply List.Sublist.cons)), ?_⟩
    exact ⟨rfl, rfl⟩

theorem decode_fn (a : Option Addr) (c : Nat) (b : List UInt8) (H : Hp) (hs : SlR u8R H a c b) (hlen : b.length ≤ 1000000) : FnC Try.prog 18 #[.slice a b.length c] H [] (RetR (fun v H2 own => own = [] ∧ DecVR b H2 v)) := by
  refine FnC.introD (args := [.slice a b.length c]) Try.func18 rfl rfl Try.ntmps18 rfl rfl rfl fun G rest => ?_
  refine XC.seq ?_
  refine XC.region ?_
  refine XO.alloc ze_24 rfl (fun b2 => ?_)
  refine XO.alloc ze_28 rfl (fun b3 => ?_)
  refine XO.nil ?_
  refine XC.seq2 ?_
  refine XC.seq ?_
  refine XC.region ?_
  refine XO.makeFunc rfl rfl ?_
  refine XO.deferV (L := [_, _]) rfl rfl rfl rfl rfl rfl (fun msD rest hrest => ?_)
  simp only [List.cons_append, List.nil_append]
  refine XO.nil ?_
  refine XC.seq2 ?_
  refine XC.seq ?_
  refine XC.region ?_
  refine XO.move rfl rfl ?_
  refine XO.build bk_58 bf_58 ze_58 rfl rfl rfl ?_
  refine XO.box rfl rfl rfl (fun b8 => ?_)
  refine XO.assign rfl rfl ?_
  refine XO.nil ?_
  refine XC.seq2 ?_
  refine XC.seq ?_
  refine XC.region ?_
  refine XO.move rfl rfl ?_
  have hcall10 := value_all 16 b8 a c b _ (by decide) hs hlen
  refine XO.callD rfl hcall10 rfl rfl ?_ ?_
  · intro HT10 hleT10 vT10 xT10 rT10 aT10 cT10 hoT10 hsT10 hvT10
    replace hs := hs.mono hleT10
    obtain ⟨aV10, cV10, rfl, hV10⟩ := hvT10
    refine XO.storeO 2 rfl rfl rfl rfl ty_24 rfl rfl rfl rfl rfl ?_
    refine XO.nil ?_
    refine XC.seq2 ?_
    refine XC.seq ?_
    refine XC.region ?_
    refine XO.move rfl rfl ?_
    refine XO.move rfl rfl ?_
    refine XO.nilCheckP rfl rfl ?_
    refine XO.fieldAddr rfl fa_58_0 rfl ?_
    refine XO.loadO 0 rfl rfl ty_27 rfl rfl rfl ?_
    refine XO.lenS (ts := #[]) rfl Try.underlying27 rfl ?_
    refine XO.eql rfl rfl rfl ?_
    by_cases hwb : rT10.length = 0
    · skip
      refine XO.callV rfl (want_ok _ _ (decide_eq_true (by omega)) _) rfl ?_
      refine XO.nil ?_
      refine XC.seq2 ?_
      refine XC.seq ?_
      refine XC.region ?_
      refine XO.loadO 2 rfl rfl ty_24 rfl rfl rfl ?_
      refine XO.storeO 2 rfl rfl rfl rfl ty_24 rfl rfl rfl rfl rfl ?_
      refine XO.storeO 1 rfl rfl rfl rfl ty_28 rfl rfl rfl rfl rfl ?_
      refine XO.nil ?_
      refine XC.seq2 ?_
      refine XC.ret ?_
      refine leaveD_two (L := [_, _, _]) rfl hrest (List.reverse_perm [_, _, _]) rfl ((d31_ret _ _ _ _ _ _ _ _).mono (fun u2 HE own2 hleE hD => ?_))
      obtain ⟨h1, h2⟩ := hD
      subst h2
      replace hs := hs.mono hleE
      replace hsT10 := hsT10.mono hleE
      replace hV10 := hV10.mono hleE
      refine ⟨by subst h1; rfl, _, _, _, rfl, (resC_cell 0 rfl rfl ty_24 rfl rfl (resC_cell 1 rfl rfl ty_28 rfl rfl resC_nil)), RetR.mk ?_⟩
      exact ⟨rfl, DecVR.yes (dec_all hoT10 hwb) ⟨_, _, rfl, hV10⟩⟩
    · skip
      refine XO.callP rfl (want_bad _ _ (decide_eq_false (by omega)) _) rfl (fun HB hleB => ?_)
      have hnone : decV b = (v0, 10) := dec_rest hoT10 hwb
      replace hs := hs.mono hleB
      replace hsT10 := hsT10.mono hleB
      replace hV10 := hV10.mono hleB
      refine seqX_panic ?_
      refine leaveD_two (L := [_, _, _]) rfl hrest (List.reverse_perm [_, _, _]) rfl ((d31_pan _ _ _ _ _ _ _ _).mono (fun u2 HE own2 hleE hD => ?_))
      obtain ⟨h1, h2⟩ := hD
      subst h2
      replace hs := hs.mono hleE
      replace hsT10 := hsT10.mono hleE
      replace hV10 := hV10.mono hleE
      refine ⟨h1, _, _, _, rfl, (resC_cell 0 rfl rfl ty_24 rfl rfl (resC_cell 1 rfl rfl ty_28 rfl rfl resC_nil)), RetR.mk ?_⟩
      exact ⟨rfl, DecVR.no hnone⟩
  · intro HT10 hleT10 hno
    have hnone : decV b = (v0, 10) := dec_none hno
    replace hs := hs.mono hleT10
    refine seqX_panic ?_
    refine leaveD_two (L := [_, _]) rfl hrest (List.reverse_perm [_, _]) rfl ((d31_pan _ _ _ _ _ _ _ _).mono (fun u2 HE own2 hleE hD => ?_))
    obtain ⟨h1, h2⟩ := hD
    subst h2
    replace hs := hs.mono hleE
    refine ⟨h1, _, _, _, rfl, (resC_cell 0 rfl rfl ty_24 rfl rfl (resC_cell 1 rfl rfl ty_28 rfl rfl resC_nil)), RetR.mk ?_⟩
    exact ⟨rfl, DecVR.no hnone⟩
theorem decode_u (a : Option Addr) (c : Nat) (b : List UInt8) (H : Hp) (hs : SlR u8R H a c b) (hlen : b.length ≤ 1000000) : FnC Try.prog 18 #[.slice a b.length c] H [] (RetR (fun v H2 _ => DecVR b H2 v)) := by
  refine (decode_fn a c b H hs hlen).mono ?_
  intro e _ _ _ h
  cases e with
  | returned v => exact h.2
  | panicked _ => exact h.elim
  | outgrown => exact h.elim

end Go.Proofs
