/- Walks that are alike in other seats, in this seat's numbers. -/
import Derived.Test.YtamnnngilmgbgaaB3
set_option autoImplicit false
set_option linter.unusedVariables false
set_option linter.unusedSimpArgs false
namespace Go.Proofs
open Go.XL

theorem w1_fn (n : Int) (s : List UInt8) (l : List Val) (a : Option Addr) (c : Nat) (hn : -9223372036854775808 ≤ n ∧ n ≤ 9223372036854775807) (po : Nat × SObj) (ao : Option Addr) (co : Nat) (l0 : List UInt8) (H : Hp) (hacc : AccB H po ao co l0) (hl0 : l0.length ≤ 60000000) : FnC Try.prog 71 #[.slice ao l0.length co, .agg ⟨[.int .i64 1, .int .i64 n, .string (bsOf s), .slice a l.length c]⟩] H [po] (RetR (fun v H2 own => ∃ po2 a2 c2, own = [po2] ∧ v = .slice a2 (l0 ++ encV (.mk 1 n s l)).length c2 ∧ AccB H2 po2 a2 c2 (l0 ++ encV (.mk 1 n s l)))) := by
 refine FnC.intro (args := [.slice ao l0.length co, .agg ⟨[.int .i64 1, .int .i64 n, .string (bsOf s), .slice a l.length c]⟩]) Try.func71 rfl rfl Try.ntmps71 rfl rfl rfl fun G rest => ?_
 have hu := uns_lt2 hn
 refine XC.seq ?_; refine XC.region ?_; refine XO.box rfl rfl rfl (fun b3 => ?_); refine XO.perm (List.Perm.swap _ _ _) ?_; refine XO.assign rfl rfl ?_; refine XO.nil ?_; refine XC.seq2 ?_; refine XC.seq ?_; refine XC.keep [0, 3] rfl ?_
 apply XC.drawQ (fun _ => True) trivial [2] (FOl (fun j => [l0, l0 ++ [1]].getD j []) ao co) (FOl_mono _ _ _) 5 [eqF _, slF u8R [1], anyF, eqF _, eqF _] follows (by kernel_rfl) ⟨eqF_mono _, slF_mono _ _, anyF_mono, eqF_mono _, eqF_mono _, trivial⟩ (by kernel_rfl) (FOl_0 hacc) ?steps1 ?tail1
 case steps1 =>
  refine stepsQ_cons rfl ?_ ?_
  ·intro X e HD hleD _
   replace hacc := hacc.mono hleD; refine withP_nil rfl ?_
   intro hfa
   refine XO.move rfl rfl ?_; refine XO.nil ?_
   exact stepQV_ok trivial (rfl) (foQ_no rfl)
  refine stepsQ_cons rfl ?_ ?_
  ·intro X e HD hleD _
   replace hacc := hacc.mono hleD; refine withP_nil rfl ?_
   intro hfa
   refine XO.buildSlice rfl Try.underlying44 ty_5 ze_5 rfl rfl rfl (fun b6 => ?_); refine XO.publish 0 rfl rfl rfl (fun HP6 oP6 hleP6 hbP6 hoP6 => ?_)
   have hsl6 := SlR.lit (ρ := u8R) (l := [1]) hbP6 hoP6 (RowsR.one1 rfl)
   replace hacc := hacc.mono hleP6; refine XO.nil ?_
   exact stepQV_ok trivial (⟨_, rfl, hsl6⟩) (foQ_no rfl)
  refine stepsQ_cons rfl ?_ ?_
  ·intro X e HD hleD _
   replace hacc := hacc.mono hleD; refine withP_cons rfl rfl ?_; rintro _ rfl; refine withP_cons rfl rfl ?_; rintro _ ⟨bs6, rfl, hsl6⟩; refine withP_nil rfl ?_
   intro hfa
   have hfa0 := (factQ_0 rfl hfa).1 rfl
   refine XO.appendA 0 rfl rfl hfa0 rfl rfl hsl6 rfl Try.underlying44 ty_5 ze_5 rfl by_5 (by simp; omega) rfl (fun p7 a7 c7 hacc7 => ?_); refine XO.nil ?_
   exact stepQV_ok trivial (trivial) (foQ_mod rfl (by exact FOl_s hacc7))
  refine stepsQ_cons rfl ?_ ?_
  ·intro X e HD hleD _
   replace hacc := hacc.mono hleD; refine withP_nil rfl ?_
   intro hfa
   refine XO.fieldAddr rfl fa_87_1 rfl ?_; refine XO.nil ?_
   exact stepQV_ok trivial (rfl) (foQ_no rfl)
  refine stepsQ_cons rfl ?_ ?_
  ·intro X e HD hleD _
   replace hacc := hacc.mono hleD; refine withP_cons rfl rfl ?_; rintro _ rfl; refine withP_nil rfl ?_
   intro hfa
   refine XO.loadO 1 rfl rfl ty_3 rfl rfl rfl ?_; refine XO.nil ?_
   exact stepQV_ok trivial (rfl) (foQ_no rfl)
  exact stepsQ_end rfl
 case tail1 =>
  intro HD hleD _
  replace hacc := hacc.mono hleD; refine withP_cons rfl rfl ?_; rintro _ rfl; refine withP_cons rfl rfl ?_; rintro _ ⟨bs6, rfl, hsl6⟩; refine withP_cons rfl rfl ?_; rintro _ _; refine withP_cons rfl rfl ?_; rintro _ rfl; refine withP_cons rfl rfl ?_; rintro _ rfl; refine withP_nil rfl ?_
  intro e he
  have hfb := lastQ_s rfl he rfl rfl
  obtain ⟨a7, c7, hv7, hacc7⟩ := hfb.2 (by decide)
  subst hv7
  refine XO.callV rfl (uns_fn n hn _) rfl ?_
  have hcall := num_fn e a7 c7 (l0 ++ [1]) (unsV n) _ hacc7 (by omega) (by simp; omega)
  refine XO.callF 0 rfl hcall rfl rfl ?_; rintro _ HN11 _ hleN11 ⟨p11, a11, c11, rfl, rfl, hacc11⟩; refine ⟨_, rfl, ?_⟩; replace hacc := hacc.mono hleN11; replace hsl6 := hsl6.mono hleN11; refine XO.assign rfl rfl ?_; refine XO.nil ?_; refine XC.seq2 ?_; refine XC.ret ?_; refine ⟨rfl, _, [_], rfl, (by repeat (first | exact List.Sublist.refl _ | apply List.Sublist.cons_cons | apply List.Sublist.cons)), RetR.mk ?_⟩
  rw [encV1, ← List.append_assoc]
  exact ⟨_, _, _, rfl, rfl, by assumption⟩
theorem w2_fn (n : Int) (s : List UInt8) (l : List Val) (a : Option Addr) (c : Nat) (po : Nat × SObj) (ao : Option Addr) (co : Nat) (l0 : List UInt8) (H : Hp) (hacc : AccB H po ao co l0) (hl0 : l0.length + s.length ≤ 60000000) : FnC Try.prog 74 #[.slice ao l0.length co, .agg ⟨[.int .i64 2, .int .i64 n, .string (bsOf s), .slice a l.length c]⟩] H [po] (RetR (fun v H2 own => ∃ po2 a2 c2, own = [po2] ∧ v = .slice a2 (l0 ++ encV (.mk 2 n s l)).length c2 ∧ AccB H2 po2 a2 c2 (l0 ++ encV (.mk 2 n s l)))) := by
 refine FnC.intro (args := [.slice ao l0.length co, .agg ⟨[.int .i64 2, .int .i64 n, .string (bsOf s), .slice a l.length c]⟩]) Try.func74 rfl rfl Try.ntmps74 rfl rfl rfl fun G rest => ?_
 have hnl := numL_10 (u := s.length) (by omega)
 refine XC.seq ?_; refine XC.region ?_; refine XO.box rfl rfl rfl (fun b3 => ?_); refine XO.perm (List.Perm.swap _ _ _) ?_; refine XO.assign rfl rfl ?_; refine XO.nil ?_; refine XC.seq2 ?_; refine XC.seq ?_; refine XC.keep [0, 3] rfl ?_
 apply XC.drawQ (fun _ => True) trivial [2, 7] (FOl (fun j => [l0, l0 ++ [2], (l0 ++ [2]) ++ numL s.length].getD j []) ao co) (FOl_mono _ _ _) 10 [eqF _, slF u8R [2], anyF, eqF _, eqF _, eqF _, eqF _, anyF, eqF _, eqF _] follows (by kernel_rfl) ⟨eqF_mono _, slF_mono _ _, anyF_mono, eqF_mono _, eqF_mono _, eqF_mono _, eqF_mono _, anyF_mono, eqF_mono _, eqF_mono _, trivial⟩ (by kernel_rfl) (FOl_0 hacc) ?steps1 ?tail1
 case steps1 =>
  refine stepsQ_cons rfl ?_ ?_
  ·intro X e HD hleD _
   replace hacc := hacc.mono hleD; refine withP_nil rfl ?_
   intro hfa
   refine XO.move rfl rfl ?_; refine XO.nil ?_
   exact stepQV_ok trivial (rfl) (foQ_no rfl)
  refine stepsQ_cons rfl ?_ ?_
  ·intro X e HD hleD _
   replace hacc := hacc.mono hleD; refine withP_nil rfl ?_
   intro hfa
   refine XO.buildSlice rfl Try.underlying44 ty_5 ze_5 rfl rfl rfl (fun b6 => ?_); refine XO.publish 0 rfl rfl rfl (fun HP6 oP6 hleP6 hbP6 hoP6 => ?_)
   have hsl6 := SlR.lit (ρ := u8R) (l := [2]) hbP6 hoP6 (RowsR.one1 rfl)
   replace hacc := hacc.mono hleP6; refine XO.nil ?_
   exact stepQV_ok trivial (⟨_, rfl, hsl6⟩) (foQ_no rfl)
  refine stepsQ_cons rfl ?_ ?_
  ·intro X e HD hleD _
   replace hacc := hacc.mono hleD; refine withP_cons rfl rfl ?_; rintro _ rfl; refine withP_cons rfl rfl ?_; rintro _ ⟨bs6, rfl, hsl6⟩; refine withP_nil rfl ?_
   intro hfa
   have hfa0 := (factQ_0 rfl hfa).1 rfl
   refine XO.appendA 0 rfl rfl hfa0 rfl rfl hsl6 rfl Try.underlying44 ty_5 ze_5 rfl by_5 (by simp; omega) rfl (fun p7 a7 c7 hacc7 => ?_); refine XO.nil ?_
   exact stepQV_ok trivial (trivial) (foQ_mod rfl (by exact FOl_s hacc7))
  refine stepsQ_cons rfl ?_ ?_
  ·intro X e HD hleD _
   replace hacc := hacc.mono hleD; refine withP_nil rfl ?_
   intro hfa
   refine XO.fieldAddr rfl fa_87_2 rfl ?_; refine XO.nil ?_
   exact stepQV_ok trivial (rfl) (foQ_no rfl)
  refine stepsQ_cons rfl ?_ ?_
  ·intro X e HD hleD _
   replace hacc := hacc.mono hleD; refine withP_cons rfl rfl ?_; rintro _ rfl; refine withP_nil rfl ?_
   intro hfa
   refine XO.loadO 1 rfl rfl ty_9 rfl rfl rfl ?_; refine XO.nil ?_
   exact stepQV_ok trivial (rfl) (foQ_no rfl)
  refine stepsQ_cons rfl ?_ ?_
  ·intro X e HD hleD _
   replace hacc := hacc.mono hleD; refine withP_cons rfl rfl ?_; rintro _ rfl; refine withP_nil rfl ?_
   intro hfa
   refine XO.lenStr rfl Try.underlying9 (by omega) rfl ?_; refine XO.nil ?_
   exact stepQV_ok trivial (rfl) (foQ_no rfl)
  refine stepsQ_cons rfl ?_ ?_
  ·intro X e HD hleD _
   replace hacc := hacc.mono hleD; refine withP_cons rfl rfl ?_; rintro _ rfl; refine withP_nil rfl ?_
   intro hfa
   refine XO.convI (c := ((s.length : Nat) : Int)) rfl Try.underlying3 Try.underlying108 (wrap_u64 (by omega) (by omega)) rfl ?_; refine XO.nil ?_
   exact stepQV_ok trivial (rfl) (foQ_no rfl)
  refine stepsQ_cons rfl ?_ ?_
  ·intro X e HD hleD _
   replace hacc := hacc.mono hleD; refine withP_cons rfl rfl ?_; rintro _ _; refine withP_cons rfl rfl ?_; rintro _ rfl; refine withP_nil rfl ?_
   intro hfa
   have hfb := factQ_s rfl hfa rfl rfl
   obtain ⟨a7, c7, hv7, hfa0⟩ := hfb.2 (by decide)
   subst hv7
   have hcall := num_fn e a7 c7 (l0 ++ [2]) s.length _ hfa0 (by omega) (by simp; omega)
   refine XO.callF 0 rfl hcall rfl rfl ?_; rintro _ HN12 _ hleN12 ⟨p12, a12, c12, rfl, rfl, hacc12⟩; refine ⟨_, rfl, ?_⟩; replace hacc := hacc.mono hleN12; refine XO.nil ?_
   exact stepQV_ok trivial (trivial) (foQ_mod rfl (by exact FOl_s hacc12))
  refine stepsQ_cons rfl ?_ ?_
  ·intro X e HD hleD _
   replace hacc := hacc.mono hleD; refine withP_nil rfl ?_
   intro hfa
   refine XO.fieldAddr rfl fa_87_2 rfl ?_; refine XO.nil ?_
   exact stepQV_ok trivial (rfl) (foQ_no rfl)
  refine stepsQ_cons rfl ?_ ?_
  ·intro X e HD hleD _
   replace hacc := hacc.mono hleD; refine withP_cons rfl rfl ?_; rintro _ rfl; refine withP_nil rfl ?_
   intro hfa
   refine XO.loadO 1 rfl rfl ty_9 rfl rfl rfl ?_; refine XO.nil ?_
   exact stepQV_ok trivial (rfl) (foQ_no rfl)
  exact stepsQ_end rfl
 case tail1 =>
  intro HD hleD _
  replace hacc := hacc.mono hleD; refine withP_cons rfl rfl ?_; rintro _ rfl; refine withP_cons rfl rfl ?_; rintro _ ⟨bs6, rfl, hsl6⟩; refine withP_cons rfl rfl ?_; rintro _ _; refine withP_cons rfl rfl ?_; rintro _ rfl; refine withP_cons rfl rfl ?_; rintro _ rfl; refine withP_cons rfl rfl ?_; rintro _ rfl; refine withP_cons rfl rfl ?_; rintro _ rfl; refine withP_cons rfl rfl ?_; rintro _ _; refine withP_cons rfl rfl ?_; rintro _ rfl; refine withP_cons rfl rfl ?_; rintro _ rfl; refine withP_nil rfl ?_
  intro e he
  have hfb := lastQ_s rfl he rfl rfl
  obtain ⟨a12, c12, hv12, hacc12⟩ := hfb.2 (by decide)
  subst hv12
  refine XO.appendS 0 rfl rfl hacc12 rfl rfl Try.underlying44 Try.underlying9 ty_5 ze_5 rfl by_5 (by simp; omega) rfl (fun p15 a15 c15 hacc15 => ?_); refine XO.assign rfl rfl ?_; refine XO.nil ?_; refine XC.seq2 ?_; refine XC.ret ?_; refine ⟨rfl, _, [_], rfl, (by repeat (first | exact List.Sublist.refl _ | apply List.Sublist.cons_cons | apply List.Sublist.cons)), RetR.mk ?_⟩
  rw [encV2, ← List.append_assoc, ← List.append_assoc]
  exact ⟨_, _, _, rfl, rfl, by assumption⟩
/-- what the writer of lists does with values up to a size -/
def W3 (bw b1 m : Nat) : Prop := ∀ (n : Int) (s : List UInt8) (l : List Val) (a : Option Addr) (c : Nat) (po : Nat × SObj) (ao : Option Addr) (co : Nat) (l0 : List UInt8) (H : Hp), wszV (.mk 3 n s l) ≤ m → m ≤ 1000000 → formedB (.mk 3 n s l) = true → Fit (.mk 3 n s l) → l0.length + wszV (.mk 3 n s l) ≤ 50000000 → WrH H bw b1 → SlR valR H a c l → AccB H po ao co l0 →
 FnC Try.prog 75 #[.slice ao l0.length co, .agg ⟨[.int .i64 3, .int .i64 n, .string (bsOf s), .slice a l.length c]⟩, .pointer (some ⟨b1, 0, none⟩)] H [po] (RetR (fun v H2 own => ∃ po2 a2 c2, own = [po2] ∧ v = .slice a2 (l0 ++ encV (.mk 3 n s l)).length c2 ∧ AccB H2 po2 a2 c2 (l0 ++ encV (.mk 3 n s l))))
theorem wr_any {bw b1 m : Nat} (ih : W3 bw b1 m) {k n : Int} {s : List UInt8} {l : List Val} {a : Option Addr} {c : Nat} {po : Nat × SObj} {ao : Option Addr} {co : Nat} {l0 : List UInt8} {H : Hp} (hw : wszV (.mk k n s l) ≤ m) (hm : m ≤ 1000000) (hf : formedB (.mk k n s l) = true) (hfit : Fit (.mk k n s l)) (hl : l0.length + wszV (.mk k n s l) ≤ 50000000) (hW : WrH H bw b1) (hs : SlR valR H a c l) (hacc : AccB H po ao co l0) :
  FnV Try.prog (wfun b1 k) [.slice ao l0.length co, .agg ⟨[.int .i64 k, .int .i64 n, .string (bsOf s), .slice a l.length c]⟩] H [po] (RetR (fun v H2 own => ∃ po2 a2 c2, own = [po2] ∧ v = .slice a2 (l0 ++ encV (.mk k n s l)).length c2 ∧ AccB H2 po2 a2 c2 (l0 ++ encV (.mk k n s l)))) := by
 obtain ⟨f1, f2, f3, f4⟩ := hfit.of
 rcases formed_kind hf with rfl | rfl | rfl
 ·exact FnV.of_fn (cap := []) (args := [_, _]) (w1_fn n s l a c f1 po ao co l0 H hacc (by omega))
 ·exact FnV.of_fn (cap := []) (args := [_, _]) (w2_fn n s l a c po ao co l0 H hacc (by rw [wszV] at hl; omega))
 ·exact FnV.of_fn (cap := [_]) (args := [_, _]) (ih n s l a c po ao co l0 H hw hm hf hfit hl hW hs hacc)
end Go.Proofs

/- Walks that are alike in other seats, in this seat's numbers. -/
set_option autoImplicit false
set_option linter.unusedVariables false
set_option linter.unusedSimpArgs false
namespace Go.Proofs
open Go.XL

theorem ty_97 : tyF Try.prog 97 1 false = true := by kernel_rfl
theorem ty_99 : tyF Try.prog 99 1 true = true := by kernel_rfl
theorem fa_99_0 : fieldF Try.prog 99 0 = some 0 := by kernel_rfl
theorem ty_100 : tyF Try.prog 100 1 false = true := by kernel_rfl
theorem w3_all (bw b1 : Nat) : ∀ m, W3 bw b1 m := by
 intro m
 refine Nat.strongRecOn m ?_
 clear m
 intro m ih n s l a c po ao co l0 H hw hm hf hfit hl hWr hs hacc
 obtain ⟨f1, f2, f3, f4⟩ := hfit.of
 have hfl := formedL_iff.1 (formed3.1 hf).2
 have hnl := numL_10 (u := l.length) (by omega)
 rw [wszV] at hw hl
 have hwl := wsz_len (l := l)
 refine FnC.intro (args := [.slice ao l0.length co, .agg ⟨[.int .i64 3, .int .i64 n, .string (bsOf s), .slice a l.length c]⟩, .pointer (some ⟨b1, 0, none⟩)]) Try.func75 rfl rfl Try.ntmps75 rfl rfl rfl fun G rest => ?_
 refine XC.seq ?_; refine XC.region ?_; refine XO.box rfl rfl rfl (fun b4 => ?_); refine XO.perm (List.Perm.swap _ _ _) ?_; refine XO.assign rfl rfl ?_; refine XO.nil ?_; refine XC.seq2 ?_; refine XC.seq ?_; refine XC.keep [0, 2, 4] rfl ?_
 apply XC.drawQ (fun _ => True) trivial [2] (FOl (fun j => [l0, l0 ++ [3]].getD j []) ao co) (FOl_mono _ _ _) 7 [eqF _, slF u8R [3], anyF, eqF _, eqF _, eqF _, eqF _] follows (by kernel_rfl) ⟨eqF_mono _, slF_mono _ _, anyF_mono, eqF_mono _, eqF_mono _, eqF_mono _, eqF_mono _, trivial⟩ (by kernel_rfl) (FOl_0 hacc) ?steps1 ?tail1
 case steps1 =>
  refine stepsQ_cons rfl ?_ ?_
  ·intro X e HD hleD _
   replace hacc := hacc.mono hleD; replace hs := hs.mono hleD; replace hWr := hWr.mono hleD; refine withP_nil rfl ?_
   intro hfa
   refine XO.move rfl rfl ?_; refine XO.nil ?_
   exact stepQV_ok trivial (rfl) (foQ_no rfl)
  refine stepsQ_cons rfl ?_ ?_
  ·intro X e HD hleD _
   replace hacc := hacc.mono hleD; replace hs := hs.mono hleD; replace hWr := hWr.mono hleD; refine withP_nil rfl ?_
   intro hfa
   refine XO.buildSlice rfl Try.underlying44 ty_5 ze_5 rfl rfl rfl (fun b9 => ?_); refine XO.publish 0 rfl rfl rfl (fun HP9 oP9 hleP9 hbP9 hoP9 => ?_)
   have hsl9 := SlR.lit (ρ := u8R) (l := [3]) hbP9 hoP9 (RowsR.one1 rfl)
   replace hacc := hacc.mono hleP9; replace hs := hs.mono hleP9; replace hWr := hWr.mono hleP9; refine XO.nil ?_
   exact stepQV_ok trivial (⟨_, rfl, hsl9⟩) (foQ_no rfl)
  refine stepsQ_cons rfl ?_ ?_
  ·intro X e HD hleD _
   replace hacc := hacc.mono hleD; replace hs := hs.mono hleD; replace hWr := hWr.mono hleD; refine withP_cons rfl rfl ?_; rintro _ rfl; refine withP_cons rfl rfl ?_; rintro _ ⟨bs9, rfl, hsl9⟩; refine withP_nil rfl ?_
   intro hfa
   have hfa0 := (factQ_0 rfl hfa).1 rfl
   refine XO.appendA 0 rfl rfl hfa0 rfl rfl hsl9 rfl Try.underlying44 ty_5 ze_5 rfl by_5 (by simp; omega) rfl (fun p10 a10 c10 hacc10 => ?_); refine XO.nil ?_
   exact stepQV_ok trivial (trivial) (foQ_mod rfl (by exact FOl_s hacc10))
  refine stepsQ_cons rfl ?_ ?_
  ·intro X e HD hleD _
   replace hacc := hacc.mono hleD; replace hs := hs.mono hleD; replace hWr := hWr.mono hleD; refine withP_nil rfl ?_
   intro hfa
   refine XO.fieldAddr rfl fa_87_3 rfl ?_; refine XO.nil ?_
   exact stepQV_ok trivial (rfl) (foQ_no rfl)
  refine stepsQ_cons rfl ?_ ?_
  ·intro X e HD hleD _
   replace hacc := hacc.mono hleD; replace hs := hs.mono hleD; replace hWr := hWr.mono hleD; refine withP_cons rfl rfl ?_; rintro _ rfl; refine withP_nil rfl ?_
   intro hfa
   refine XO.loadO 1 rfl rfl ty_85 rfl rfl rfl ?_; refine XO.nil ?_
   exact stepQV_ok trivial (rfl) (foQ_no rfl)
  refine stepsQ_cons rfl ?_ ?_
  ·intro X e HD hleD _
   replace hacc := hacc.mono hleD; replace hs := hs.mono hleD; replace hWr := hWr.mono hleD; refine withP_cons rfl rfl ?_; rintro _ rfl; refine withP_nil rfl ?_
   intro hfa
   refine XO.lenS (ts := #[]) rfl Try.underlying85 rfl ?_; refine XO.nil ?_
   exact stepQV_ok trivial (rfl) (foQ_no rfl)
  refine stepsQ_cons rfl ?_ ?_
  ·intro X e HD hleD _
   replace hacc := hacc.mono hleD; replace hs := hs.mono hleD; replace hWr := hWr.mono hleD; refine withP_cons rfl rfl ?_; rintro _ rfl; refine withP_nil rfl ?_
   intro hfa
   refine XO.convI (c := ((l.length : Nat) : Int)) rfl Try.underlying3 Try.underlying108 (wrap_u64 (by omega) (by omega)) rfl ?_; refine XO.nil ?_
   exact stepQV_ok trivial (rfl) (foQ_no rfl)
  exact stepsQ_end rfl
 case tail1 =>
  intro HD hleD _
  replace hacc := hacc.mono hleD; replace hs := hs.mono hleD; replace hWr := hWr.mono hleD; refine withP_cons rfl rfl ?_; rintro _ rfl; refine withP_cons rfl rfl ?_; rintro _ ⟨bs9, rfl, hsl9⟩; refine withP_cons rfl rfl ?_; rintro _ _; refine withP_cons rfl rfl ?_; rintro _ rfl; refine withP_cons rfl rfl ?_; rintro _ rfl; refine withP_cons rfl rfl ?_; rintro _ rfl; refine withP_cons rfl rfl ?_; rintro _ rfl; refine withP_nil rfl ?_
  intro e he
  have hfb := lastQ_s rfl he rfl rfl
  obtain ⟨a10, c10, hv10, hacc10⟩ := hfb.2 (by decide)
  subst hv10
  have hcall := num_fn e a10 c10 (l0 ++ [3]) l.length _ hacc10 (by omega) (by simp; omega)
  refine XO.callF 0 rfl hcall rfl rfl ?_; rintro _ HN15 _ hleN15 ⟨p15, a15, c15, rfl, rfl, hacc15⟩; refine ⟨_, rfl, ?_⟩; replace hacc := hacc.mono hleN15; replace hs := hs.mono hleN15; replace hWr := hWr.mono hleN15; replace hsl9 := hsl9.mono hleN15; refine XO.assign rfl rfl ?_; refine XO.nil ?_; refine XC.seq2 ?_; refine XC.seq ?_; refine XC.seq ?_; refine XC.region ?_; refine XO.fieldAddr rfl fa_87_3 rfl ?_; refine XO.loadO 1 rfl rfl ty_85 rfl rfl rfl ?_; refine XO.lenS (ts := #[]) rfl Try.underlying85 rfl ?_; refine XO.move rfl rfl ?_; refine XO.nil ?_; refine XC.seq2 ?_; refine XC.block ?_; refine XC.keep [0, 19, 2, 17, 18] rfl ?_; refine XC.loop (base := [(2, _), (17, _), (18, _)]) (fun ζ : Nat × ((Nat × SObj) × Option Addr × Nat) => [(0, .slice ζ.2.2.1 (((l0 ++ [3]) ++ numL l.length) ++ encL (l.take (ζ.1))).length ζ.2.2.2), (19, .int .i64 (ζ.1 : Nat))]) (fun ζ Hl own => ζ.1 ≤ l.length ∧ ζ.2.1 :: rest = own ∧ Acc u8R 5 Hl ζ.2.1 ζ.2.2.1 ζ.2.2.2 (((l0 ++ [3]) ++ numL l.length) ++ encL (l.take (ζ.1)))) (fun ζ => l.length - ζ.1) (0, (p15, a15, c15)) (prov_cons (by show _ = some (Value.slice _ (_ ++ encL (l.take 0)).length _); rw [show encL (l.take 0) = [] from rfl, List.append_nil]; rfl) (prov_cons (rfl) (prov_cons (rfl) (prov_cons (rfl) (prov_cons (rfl) prov_nil))))) (by repeat (first | exact List.Sublist.refl _ | apply List.Sublist.cons_cons | apply List.Sublist.cons)) ⟨Nat.zero_le _, rfl, (by rw [show encL (l.take 0) = [] from rfl, List.append_nil]; exact hacc15)⟩ ?_; rintro ⟨i, ⟨po, ao, co⟩⟩ Hl0 _ hle0 ⟨hki, rfl, hacco⟩; replace hs := hs.mono hle0; replace hWr := hWr.mono hle0; replace hsl9 := hsl9.mono hle0
  try dsimp only at hki hacco ⊢
  refine XC.seq ?_; refine XC.region ?_; refine XO.lss rfl rfl rfl ?_; refine XO.nil ?_; refine XC.seq2 ?_; refine XC.seq ?_; refine XC.cond rfl (fun c0_4 => ?_) (fun c0_4 => ?_)
  ·refine XC.skip ?_; refine XC.seq2 ?_; refine XC.seq ?_; refine XC.block ?_; refine XC.seq ?_; refine XC.region ?_; refine XO.indexN rfl hs rfl Try.underlying85 ty_87 (by omega) rfl ?_; rintro eb21 eo21 _ x21 hx21 hR21 hp21; obtain ⟨k21, n21, s21, l21⟩ := x21; obtain ⟨a21, c21, rfl, hd21⟩ := valR_iff.1 hR21; refine XO.loadH rfl (by assumption) ty_87 rfl rfl rfl ?_; refine XO.alloc ze_87 rfl (fun b7 => ?_); refine XO.storeO 0 rfl rfl rfl rfl ty_87 rfl rfl rfl rfl rfl ?_; refine XO.nil ?_; refine XC.seq2 ?_; refine XC.keep [0, 2, 7, 17, 18, 19] rfl ?_
   have hfx := hfl _ (List.mem_of_getElem? hx21)
   have hk3 := formed_kind hfx
   have hWp := hWr.p
   have hWa := hWr.at hk3
   have hwx := wsz_mem (List.mem_of_getElem? hx21)
   apply XC.draw 9 [eqF _, eqF _, eqF _, eqF _, eqF _, eqF _, eqF _, eqF _, eqF _] follows (by kernel_rfl) (by kernel_rfl) ⟨eqF_mono _, eqF_mono _, eqF_mono _, eqF_mono _, eqF_mono _, eqF_mono _, eqF_mono _, eqF_mono _, eqF_mono _, trivial⟩ ?steps6 ?tail6
   case steps6 =>
    refine stepsK_cons rfl ?_ ?_
    ·intro X
     refine withPreds_nil rfl ?_; refine XO.loadH rfl (by assumption) ty_100 rfl rfl rfl ?_; refine XO.nil ?_
     exact stepQ_ok rfl (rfl)
    refine stepsK_cons rfl ?_ ?_
    ·intro X
     refine withPreds_nil rfl ?_; refine XO.fieldAddr rfl fa_87_0 rfl ?_; refine XO.nil ?_
     exact stepQ_ok rfl (rfl)
    refine stepsK_cons rfl ?_ ?_
    ·intro X
     refine withPreds_cons rfl rfl ?_; rintro _ rfl; refine withPreds_nil rfl ?_; refine XO.loadO 0 rfl rfl ty_3 rfl rfl rfl ?_; refine XO.nil ?_
     exact stepQ_ok rfl (rfl)
    refine stepsK_cons rfl ?_ ?_
    ·intro X
     refine withPreds_cons rfl rfl ?_; rintro _ rfl; refine withPreds_nil rfl ?_; refine XO.nilCheckP rfl rfl ?_; refine XO.nil ?_
     exact stepQ_ok rfl (rfl)
    refine stepsK_cons rfl ?_ ?_
    ·intro X
     refine withPreds_cons rfl rfl ?_; rintro _ rfl; refine withPreds_cons rfl rfl ?_; rintro _ rfl; refine withPreds_nil rfl ?_; refine XO.indexArr rfl rfl Try.underlying106 ty_99 (by omega) (by omega) rfl ?_; refine XO.nil ?_
     exact stepQ_ok rfl (rfl)
    refine stepsK_cons rfl ?_ ?_
    ·intro X
     refine withPreds_cons rfl rfl ?_; rintro _ rfl; refine withPreds_nil rfl ?_; refine XO.fieldAddr rfl fa_99_0 rfl ?_; refine XO.nil ?_
     exact stepQ_ok rfl (rfl)
    refine stepsK_cons rfl ?_ ?_
    ·intro X
     refine withPreds_cons rfl rfl ?_; rintro _ rfl; refine withPreds_nil rfl ?_; refine XO.loadHF rfl (by assumption) ty_97 rfl rfl rfl ?_; refine XO.nil ?_
     exact stepQ_ok rfl (rfl)
    refine stepsK_cons rfl ?_ ?_
    ·intro X
     refine withPreds_nil rfl ?_; refine XO.move rfl rfl ?_; refine XO.nil ?_
     exact stepQ_ok rfl (rfl)
    refine stepsK_cons rfl ?_ ?_
    ·intro X
     refine withPreds_nil rfl ?_; refine XO.loadO 0 rfl rfl ty_87 rfl rfl rfl ?_; refine XO.nil ?_
     exact stepQ_ok rfl (rfl)
    exact stepsD_end rfl
   case tail6 =>
    refine withPreds_cons rfl rfl ?_; rintro _ rfl; refine withPreds_cons rfl rfl ?_; rintro _ rfl; refine withPreds_cons rfl rfl ?_; rintro _ rfl; refine withPreds_cons rfl rfl ?_; rintro _ rfl; refine withPreds_cons rfl rfl ?_; rintro _ rfl; refine withPreds_cons rfl rfl ?_; rintro _ rfl; refine withPreds_cons rfl rfl ?_; rintro _ rfl; refine withPreds_cons rfl rfl ?_; rintro _ rfl; refine withPreds_cons rfl rfl ?_; rintro _ rfl; refine withPreds_nil rfl ?_
    have hcall := wr_any (ih (wszV (.mk k21 n21 s21 l21)) (by omega)) (Nat.le_refl _) (by omega) hfx (f4 _ (List.mem_of_getElem? hx21)) (by have h9 := wsz_take (l := l) (i + 1); rw [take_snoc hx21, wszL_snoc] at h9; have h8 := encL_wsz (l := l.take i) (fun x hx => f4 x (List.mem_of_mem_take hx)); simp only [List.length_append, List.length_cons, List.length_nil]; omega) hWr hd21 hacco
    refine XO.callVal [_] rfl trivial rfl hcall rfl rfl ?_; rintro _ HN32 _ hleN32 ⟨p32, a32, c32, rfl, rfl, hacc32⟩; replace hs := hs.mono hleN32; replace hWr := hWr.mono hleN32; replace hsl9 := hsl9.mono hleN32; replace hacco := hacco.mono hleN32; replace hp21 := hp21.mono hleN32; replace hd21 := hd21.mono hleN32; replace hle0 := hle0.trans hleN32; refine XO.assign rfl rfl ?_; refine XO.nil ?_; refine blockN ?_; refine XC.seq2 ?_; refine XC.region ?_; refine XO.add rfl rfl (wrap_i64 (by omega) (by omega)) rfl ?_; refine XO.move rfl rfl ?_; refine XO.nil ?_; refine loop_next ((i + 1, (p32, a32, c32))) (by show l.length - (i + 1) < l.length - i; omega) (prov_cons (by first | rfl | (rw [take_snoc hx21, encL_snoc, ← List.append_assoc]; rfl)) (prov_cons (rfl) (prov_cons (rfl) (prov_cons (rfl) (prov_cons (rfl) prov_nil))))) (⟨by show i + 1 ≤ l.length; omega, rfl, by first | (exact hacc32) | (rw [take_snoc hx21, encL_snoc, ← List.append_assoc]; exact hacc32)⟩) (by repeat (first | exact List.Sublist.refl _ | apply List.Sublist.cons_cons | apply List.Sublist.cons)) (hle0)
  ·obtain rfl : i = l.length := by omega
   rw [List.take_length] at hacco ⊢
   refine XC.exit ?_; refine seqX_exit ?_; refine loopX_exit ?_; refine blockHit rfl ?_; refine XC.seq2 ?_; refine XC.seq ?_; refine XC.region ?_; refine XO.move rfl rfl ?_; refine XO.assign rfl rfl ?_; refine XO.nil ?_; refine XC.seq2 ?_; refine XC.ret ?_; refine ⟨rfl, _, [_], rfl, (by repeat (first | exact List.Sublist.refl _ | apply List.Sublist.cons_cons | apply List.Sublist.cons)), RetR.mk ?_⟩
   rw [encV3, ← List.append_assoc, ← List.append_assoc]
   exact ⟨_, _, _, rfl, rfl, by assumption⟩
theorem write_all {bw b1 : Nat} {k n : Int} {s : List UInt8} {l : List Val} {a : Option Addr} {c : Nat} {po : Nat × SObj} {ao : Option Addr} {co : Nat} {l0 : List UInt8} {H : Hp} (hm : wszV (.mk k n s l) ≤ 1000000) (hf : formedB (.mk k n s l) = true) (hfit : Fit (.mk k n s l)) (hl : l0.length + wszV (.mk k n s l) ≤ 50000000) (hW : WrH H bw b1) (hs : SlR valR H a c l) (hacc : AccB H po ao co l0) :
  FnV Try.prog (wfun b1 k) [.slice ao l0.length co, .agg ⟨[.int .i64 k, .int .i64 n, .string (bsOf s), .slice a l.length c]⟩] H [po] (RetR (fun v H2 own => ∃ po2 a2 c2, own = [po2] ∧ v = .slice a2 (l0 ++ encV (.mk k n s l)).length c2 ∧ AccB H2 po2 a2 c2 (l0 ++ encV (.mk k n s l)))) := wr_any (w3_all bw b1 1000000) hm (Nat.le_refl _) hf hfit hl hW hs hacc
end Go.Proofs

/- Walks that are alike in other seats, in this seat's numbers. -/
set_option autoImplicit false
set_option linter.unusedVariables false
set_option linter.unusedSimpArgs false
namespace Go.Proofs
open Go.XL

theorem ze_100 : zeroC Try.prog 100 = some [.pointer none] := by kernel_rfl
theorem ze_106 : zeroC Try.prog 106 = some [.nilFunc, .nilFunc, .nilFunc, .nilFunc] := by kernel_rfl
theorem newWriter_fn (H : Hp) : FnC Try.prog 67 #[] H [] (RetR (fun v H2 _ => ∃ bw b1, v = .pointer (some ⟨bw, 0, none⟩) ∧ WrH H2 bw b1)) := by
 refine FnC.intro (args := []) Try.func67 rfl rfl Try.ntmps67 rfl rfl rfl fun G rest => ?_
 refine XC.seq ?_; refine XC.region ?_; refine XO.assign rfl rfl ?_; refine XO.nil ?_; refine XC.seq2 ?_; refine XC.seq ?_; refine XC.region ?_; refine XO.buildArr Try.underlying106 ty_99 ze_106 rfl rfl rfl ?_; refine XO.box rfl rfl rfl (fun b3 => ?_); refine XO.alloc ze_100 rfl (fun b1 => ?_); refine XO.storeO 0 rfl rfl rfl rfl ty_100 rfl rfl rfl rfl rfl ?_; refine XO.nil ?_; refine XC.seq2 ?_; refine XC.seq ?_; refine XC.region ?_; refine XO.loadO 0 rfl rfl ty_100 rfl rfl rfl ?_; refine XO.nilCheckP rfl rfl ?_; refine XO.indexArr rfl rfl Try.underlying106 ty_99 (by first | decide | omega) (by first | decide | omega) rfl ?_; refine XO.fieldAddr rfl fa_99_0 rfl ?_; refine XO.storeO 1 rfl rfl rfl rfl ty_97 rfl rfl rfl rfl rfl ?_; refine XO.nil ?_; refine XC.seq2 ?_; refine XC.seq ?_; refine XC.region ?_; refine XO.loadO 0 rfl rfl ty_100 rfl rfl rfl ?_; refine XO.nilCheckP rfl rfl ?_; refine XO.indexArr rfl rfl Try.underlying106 ty_99 (by first | decide | omega) (by first | decide | omega) rfl ?_; refine XO.fieldAddr rfl fa_99_0 rfl ?_; refine XO.storeO 1 rfl rfl rfl rfl ty_97 rfl rfl rfl rfl rfl ?_; refine XO.nil ?_; refine XC.seq2 ?_; refine XC.seq ?_; refine XC.region ?_; refine XO.loadO 0 rfl rfl ty_100 rfl rfl rfl ?_; refine XO.makeFunc rfl rfl ?_; refine XO.nilCheckP rfl rfl ?_; refine XO.indexArr rfl rfl Try.underlying106 ty_99 (by first | decide | omega) (by first | decide | omega) rfl ?_; refine XO.fieldAddr rfl fa_99_0 rfl ?_; refine XO.storeO 1 rfl rfl rfl rfl ty_97 rfl rfl rfl rfl rfl ?_; refine XO.nil ?_; refine XC.seq2 ?_; refine XC.seq ?_; refine XC.region ?_; refine XO.loadO 0 rfl rfl ty_100 rfl rfl rfl ?_; refine XO.assign rfl rfl ?_; refine XO.publish 0 rfl rfl rfl (fun HK1 oK1 hleK1 hbK1 hoK1 => ?_)
 have hp1 := PtH.of_is hbK1 hoK1
 refine XO.publish 0 rfl rfl rfl (fun HK3 oK3 hleK3 hbK3 hoK3 => ?_)
 have hp3 := PtH.of_is hbK3 hoK3
 replace hp1 := hp1.mono hleK3; refine XO.nil ?_; refine XC.seq2 ?_; refine XC.ret ?_; refine ⟨rfl, _, [], rfl, (by repeat (first | exact List.Sublist.refl _ | apply List.Sublist.cons)), RetR.mk ?_⟩
 exact ⟨b3, b1, rfl, hp1, pt_at hp3 1 rfl, pt_at hp3 2 rfl, pt_at hp3 3 rfl⟩
end Go.Proofs

/- Walks that are alike in other seats, in this seat's numbers. -/
set_option autoImplicit false
set_option linter.unusedVariables false
set_option linter.unusedSimpArgs false
namespace Go.Proofs
open Go.XL

theorem enc_fn (k n : Int) (s : List UInt8) (l : List Val) (a : Option Addr) (c : Nat) (H : Hp) (hw : wszV (.mk k n s l) ≤ 1000000) (hf : Fit (.mk k n s l)) (hs : SlR valR H a c l) : FnC Try.prog 58 #[.agg ⟨[.int .i64 k, .int .i64 n, .string (bsOf s), .slice a l.length c]⟩] H [] (RetR (fun v H2 _ => EncR (.mk k n s l) H2 v)) := by
 refine FnC.intro (args := [.agg ⟨[.int .i64 k, .int .i64 n, .string (bsOf s), .slice a l.length c]⟩]) Try.func58 rfl rfl Try.ntmps58 rfl rfl rfl fun G rest => ?_
 refine XC.seq ?_; refine XC.region ?_; refine XO.box rfl rfl rfl (fun b1 => ?_); refine XO.assign rfl rfl ?_; refine XO.assign rfl rfl ?_; refine XO.nil ?_; refine XC.seq2 ?_; refine XC.seq ?_; refine XC.seq ?_; refine XC.region ?_; refine XO.loadO 0 rfl rfl ty_87 rfl rfl rfl ?_
 have hcall := check_fn k n s l a c _ hw hs
 refine XO.callV rfl hcall rfl ?_; refine XO.assign rfl rfl ?_; refine XO.nil ?_; refine XC.seq2 ?_; refine XC.seq ?_; refine XC.region ?_; refine XO.move rfl rfl ?_; refine XO.neq rfl rfl rfl ?_; refine XO.nil ?_; refine XC.seq2 ?_; refine XC.cond rfl (fun c0_2 => ?_) (fun c0_2 => ?_)
 ·have hch : chkV (.mk k n s l) ≠ 0 := c0_2
  refine XC.seq ?_; refine XC.region ?_; refine XO.move rfl rfl ?_; refine XO.assign rfl rfl ?_; refine XO.assign rfl rfl ?_; refine XO.nil ?_; refine XC.seq2 ?_; refine XC.ret ?_; refine seqX_ret ?_; refine ⟨rfl, _, [], rfl, (by repeat (first | exact List.Sublist.refl _ | apply List.Sublist.cons)), RetR.mk ?_⟩
  exact enc_no hch
 ·have hch : chkV (.mk k n s l) = 0 := by omega
  refine XC.skip ?_; refine XC.seq2 ?_; refine XC.seq ?_; refine XC.keep [1] rfl ?_
  have hfm := chk0_formed hch
  have hk3 := formed_kind hfm
  apply XC.drawG (fun _ => True) trivial 8 [fun v H => ∃ bw b1, v = .pointer (some ⟨bw, 0, none⟩) ∧ WrH H bw b1, eqF _, eqF _, fun v H => ∃ bw b1, v = .pointer (some ⟨bw, 0, none⟩) ∧ WrH H bw b1, fun v H => ∃ bw b1, v = .pointer (some ⟨bw, 0 + k.toNat * 1, none⟩) ∧ WrH H bw b1, fun v H => ∃ bw b1, v = .pointer (some ⟨bw, 0 + k.toNat * 1 + 0, none⟩) ∧ WrH H bw b1, fun v H => ∃ bw b1, v = wfun b1 k ∧ WrH H bw b1, eqF _] follows (by kernel_rfl) (by kernel_rfl) ⟨fun _ _ _ hle ⟨bw, b1, h1, h2⟩ => ⟨bw, b1, h1, h2.mono hle⟩, eqF_mono _, eqF_mono _, fun _ _ _ hle ⟨bw, b1, h1, h2⟩ => ⟨bw, b1, h1, h2.mono hle⟩, fun _ _ _ hle ⟨bw, b1, h1, h2⟩ => ⟨bw, b1, h1, h2.mono hle⟩, fun _ _ _ hle ⟨bw, b1, h1, h2⟩ => ⟨bw, b1, h1, h2.mono hle⟩, fun _ _ _ hle ⟨bw, b1, h1, h2⟩ => ⟨bw, b1, h1, h2.mono hle⟩, eqF_mono _, trivial⟩ ?steps3 ?tail3
  case steps3 =>
   refine stepsD_cons rfl ?_ ?_
   ·intro X HD hleD _
    replace hs := hs.mono hleD; refine withPreds_nil rfl ?_; refine XO.callH rfl (newWriter_fn _) rfl ?_; rintro _ HN10 hleN10 ⟨bw10, b110, rfl, hW10⟩; replace hs := hs.mono hleN10; refine XO.nil ?_
    exact stepQ_ok trivial (⟨_, _, rfl, hW10⟩)
   refine stepsD_cons rfl ?_ ?_
   ·intro X HD hleD _
    replace hs := hs.mono hleD; refine withPreds_nil rfl ?_; refine XO.fieldAddr rfl fa_87_0 rfl ?_; refine XO.nil ?_
    exact stepQ_ok trivial (rfl)
   refine stepsD_cons rfl ?_ ?_
   ·intro X HD hleD _
    replace hs := hs.mono hleD; refine withPreds_cons rfl rfl ?_; rintro _ rfl; refine withPreds_nil rfl ?_; refine XO.loadO 0 rfl rfl ty_3 rfl rfl rfl ?_; refine XO.nil ?_
    exact stepQ_ok trivial (rfl)
   refine stepsD_cons rfl ?_ ?_
   ·intro X HD hleD _
    replace hs := hs.mono hleD; refine withPreds_cons rfl rfl ?_; rintro _ ⟨bw0, b0, rfl, hW0⟩; refine withPreds_nil rfl ?_; refine XO.nilCheckP rfl rfl ?_; refine XO.nil ?_
    exact stepQ_ok trivial (⟨_, _, rfl, hW0⟩)
   refine stepsD_cons rfl ?_ ?_
   ·intro X HD hleD _
    replace hs := hs.mono hleD; refine withPreds_cons rfl rfl ?_; rintro _ ⟨bw3, b3, rfl, hW3⟩; refine withPreds_cons rfl rfl ?_; rintro _ rfl; refine withPreds_nil rfl ?_; refine XO.indexArr rfl rfl Try.underlying106 ty_99 (by omega) (by omega) rfl ?_; refine XO.nil ?_
    exact stepQ_ok trivial (⟨_, _, rfl, hW3⟩)
   refine stepsD_cons rfl ?_ ?_
   ·intro X HD hleD _
    replace hs := hs.mono hleD; refine withPreds_cons rfl rfl ?_; rintro _ ⟨bw4, b4, rfl, hW4⟩; refine withPreds_nil rfl ?_; refine XO.fieldAddr rfl fa_99_0 rfl ?_; refine XO.nil ?_
    exact stepQ_ok trivial (⟨_, _, rfl, hW4⟩)
   refine stepsD_cons rfl ?_ ?_
   ·intro X HD hleD _
    replace hs := hs.mono hleD; refine withPreds_cons rfl rfl ?_; rintro _ ⟨bw5, b5, rfl, hW5⟩; refine withPreds_nil rfl ?_
    have hWa := hW5.at hk3
    refine XO.loadHF rfl hWa ty_97 rfl rfl rfl ?_; refine XO.nil ?_
    exact stepQ_ok trivial (⟨_, _, rfl, hW5⟩)
   refine stepsD_cons rfl ?_ ?_
   ·intro X HD hleD _
    replace hs := hs.mono hleD; refine withPreds_nil rfl ?_; refine XO.loadO 0 rfl rfl ty_87 rfl rfl rfl ?_; refine XO.nil ?_
    exact stepQ_ok trivial (rfl)
   exact stepsD_end rfl
  case tail3 =>
   intro HD hleD _
   replace hs := hs.mono hleD; refine withPreds_cons rfl rfl ?_; rintro _ ⟨bw0, b0, rfl, hW0⟩; refine withPreds_cons rfl rfl ?_; rintro _ rfl; refine withPreds_cons rfl rfl ?_; rintro _ rfl; refine withPreds_cons rfl rfl ?_; rintro _ ⟨bw3, b3, rfl, hW3⟩; refine withPreds_cons rfl rfl ?_; rintro _ ⟨bw4, b4, rfl, hW4⟩; refine withPreds_cons rfl rfl ?_; rintro _ ⟨bw5, b5, rfl, hW5⟩; refine withPreds_cons rfl rfl ?_; rintro _ ⟨bw6, b6, rfl, hW6⟩; refine withPreds_cons rfl rfl ?_; rintro _ rfl; refine withPreds_nil rfl ?_; refine XO.open0 (σ := []) (fun b0 => ?_)
   have hcall := write_all (l0 := []) hw hfm hf (by simp; omega) hW6 hs (Acc.nil u8R 5 _ b0)
   refine XO.callVal (ownF := [(b0, .nothing)]) [] rfl trivial rfl hcall rfl rfl ?_; rintro _ HN18 _ hleN18 ⟨p18, a18, c18, rfl, rfl, hacc18⟩; replace hs := hs.mono hleN18; refine XO.publishA 0 rfl hacc18 rfl (fun HQ18 hleQ18 hsQ18 => ?_); replace hs := hs.mono hleQ18; refine XO.assign rfl rfl ?_; refine XO.assign rfl rfl ?_; refine XO.nil ?_; refine XC.seq2 ?_; refine XC.ret ?_; refine ⟨rfl, _, [], rfl, (by repeat (first | exact List.Sublist.refl _ | apply List.Sublist.cons)), RetR.mk ?_⟩
   exact enc_yes hch hsQ18
end Go.Proofs

/- Walks that are alike in other seats, in this seat's numbers. -/
set_option autoImplicit false
set_option linter.unusedVariables false
set_option linter.unusedSimpArgs false
namespace Go.Proofs
open Go.XL

end Go.Proofs

/- Walks that are alike in other seats, in this seat's numbers. -/
set_option autoImplicit false
set_option linter.unusedVariables false
set_option linter.unusedSimpArgs false
namespace Go.Proofs
open Go.XL

theorem nan_fn (x : Int) (H : Hp) : FnC Try.prog 59 #[.int .i64 x] H [] (RetR (fun v _ _ => v = .bool false)) := by
 refine FnC.intro (args := [.int .i64 x]) Try.func59 rfl rfl Try.ntmps59 rfl rfl rfl fun G rest => ?_
 refine XC.seq ?_; refine XC.region ?_; refine XO.assign rfl rfl ?_; refine XO.nil ?_; refine XC.seq2 ?_; refine XC.seq ?_; refine XC.region ?_; refine XO.move rfl rfl ?_; refine XO.move rfl rfl ?_; refine XO.neq rfl rfl rfl ?_; refine XO.assign rfl rfl ?_; refine XO.nil ?_; refine XC.seq2 ?_; refine XC.ret ?_; refine ⟨rfl, _, [], rfl, (by repeat (first | exact List.Sublist.refl _ | apply List.Sublist.cons)), RetR.mk ?_⟩
 exact congrArg Value.bool (decide_eq_false (fun h => h rfl))
theorem cmp_fn (x y : Int) (H : Hp) : FnC Try.prog 49 #[.int .i64 x, .int .i64 y] H [] (RetR (fun v _ _ => v = .int .i64 (sgn x y))) := by
 refine FnC.intro (args := [.int .i64 x, .int .i64 y]) Try.func49 rfl rfl Try.ntmps49 rfl rfl rfl fun G rest => ?_
 refine XC.seq ?_; refine XC.region ?_; refine XO.assign rfl rfl ?_; refine XO.nil ?_; refine XC.seq2 ?_; refine XC.seq ?_; refine XC.region ?_; refine XO.move rfl rfl ?_; refine XO.callV rfl (nan_fn x _) rfl ?_; refine XO.assign rfl rfl ?_; refine XO.nil ?_; refine XC.seq2 ?_; refine XC.seq ?_; refine XC.region ?_; refine XO.move rfl rfl ?_; refine XO.callV rfl (nan_fn y _) rfl ?_; refine XO.assign rfl rfl ?_; refine XO.nil ?_; refine XC.seq2 ?_; refine XC.seq ?_; refine XC.seq ?_; refine XC.region ?_; refine XO.move rfl rfl ?_; refine XO.nil ?_; refine XC.seq2 ?_; refine XC.condF rfl (rfl) ?_; refine XC.skip ?_; refine XC.seq2 ?_; refine XC.seq ?_; refine XC.seq ?_; refine XC.region ?_; refine XO.move rfl rfl ?_; refine XO.nil ?_; refine XC.seq2 ?_; refine XC.condF rfl (rfl) ?_; refine XC.skip ?_; refine XC.seq2 ?_; refine XC.seq ?_; refine XC.seq ?_; refine XC.region ?_; refine XO.move rfl rfl ?_; refine XO.move rfl rfl ?_; refine XO.lss rfl rfl rfl ?_; refine XO.nil ?_; refine XC.seq2 ?_; refine XC.cond rfl (fun c3_3 => ?_) (fun c3_3 => ?_)
 ·refine XC.seq ?_; refine XC.region ?_; refine XO.assign rfl rfl ?_; refine XO.nil ?_; refine XC.seq2 ?_; refine XC.ret ?_; refine seqX_ret ?_; refine ⟨rfl, _, [], rfl, (by repeat (first | exact List.Sublist.refl _ | apply List.Sublist.cons)), RetR.mk ?_⟩
  first | exact congrArg (Value.int .i64) (sgn_lt (by assumption)).symm | exact congrArg (Value.int .i64) (sgn_gt (by assumption)).symm | exact congrArg (Value.int .i64) (sgn_eq (by assumption) (by assumption)).symm
 ·refine XC.skip ?_; refine XC.seq2 ?_; refine XC.seq ?_; refine XC.seq ?_; refine XC.region ?_; refine XO.move rfl rfl ?_; refine XO.move rfl rfl ?_; refine XO.gtr rfl rfl rfl ?_; refine XO.nil ?_; refine XC.seq2 ?_; refine XC.cond rfl (fun c4_4 => ?_) (fun c4_4 => ?_)
  ·refine XC.seq ?_; refine XC.region ?_; refine XO.assign rfl rfl ?_; refine XO.nil ?_; refine XC.seq2 ?_; refine XC.ret ?_; refine seqX_ret ?_; refine ⟨rfl, _, [], rfl, (by repeat (first | exact List.Sublist.refl _ | apply List.Sublist.cons)), RetR.mk ?_⟩
   first | exact congrArg (Value.int .i64) (sgn_lt (by assumption)).symm | exact congrArg (Value.int .i64) (sgn_gt (by assumption)).symm | exact congrArg (Value.int .i64) (sgn_eq (by assumption) (by assumption)).symm
  ·refine XC.skip ?_; refine XC.seq2 ?_; refine XC.seq ?_; refine XC.region ?_; refine XO.assign rfl rfl ?_; refine XO.nil ?_; refine XC.seq2 ?_; refine XC.ret ?_; refine ⟨rfl, _, [], rfl, (by repeat (first | exact List.Sublist.refl _ | apply List.Sublist.cons)), RetR.mk ?_⟩
   first | exact congrArg (Value.int .i64) (sgn_lt (by assumption)).symm | exact congrArg (Value.int .i64) (sgn_gt (by assumption)).symm | exact congrArg (Value.int .i64) (sgn_eq (by assumption) (by assumption)).symm
theorem compare_fn (a b : Option Addr) (c d : Nat) (l m : List Int) (H : Hp) (hs : SlR (intR .i64) H a c l) (ht : SlR (intR .i64) H b d m) (hl : l.length < 9223372036854775808) (hm : m.length < 9223372036854775808) : FnC Try.prog 34 #[.slice a l.length c, .slice b m.length d] H [] (RetR (fun v _ _ => v = .int .i64 (cmpL l m))) := by
 refine FnC.intro (args := [.slice a l.length c, .slice b m.length d]) Try.func34 rfl rfl Try.ntmps34 rfl rfl rfl fun G rest => ?_
 refine XC.seq ?_; refine XC.region ?_; refine XO.assign rfl rfl ?_; refine XO.nil ?_; refine XC.seq2 ?_; refine XC.seq ?_; refine XC.seq ?_; refine XC.region ?_; refine XO.move rfl rfl ?_; refine XO.lenS (ts := #[]) rfl Try.underlying23 rfl ?_; refine XO.move rfl rfl ?_; refine XO.nil ?_; refine XC.seq2 ?_; refine XC.block ?_; refine XC.keep [11, 0, 1, 9, 10] rfl ?_; refine XC.loop (base := [(0, _), (1, _), (9, _), (10, _)]) (fun ζ : Nat => [(11, .int .i64 (ζ : Nat))]) (fun ζ Hl own => ζ ≤ l.length ∧ rest = own ∧ (cmpL l m = cmpL (l.drop (ζ)) (m.drop (ζ)))) (fun ζ => l.length - ζ) 0 (prov_cons (rfl) (prov_cons (rfl) (prov_cons (rfl) (prov_cons (rfl) (prov_cons (rfl) prov_nil))))) (by repeat (first | exact List.Sublist.refl _ | apply List.Sublist.cons_cons | apply List.Sublist.cons)) ⟨Nat.zero_le _, rfl, rfl⟩ ?_; rintro k Hl0 _ hle0 ⟨hkk, rfl, hc⟩; replace hs := hs.mono hle0; replace ht := ht.mono hle0
 try dsimp only at ⊢
 refine XC.seq ?_; refine XC.region ?_; refine XO.lss rfl rfl rfl ?_; refine XO.nil ?_; refine XC.seq2 ?_; refine XC.seq ?_; refine XC.cond rfl (fun c0_1 => ?_) (fun c0_1 => ?_)
 ·refine XC.skip ?_; refine XC.seq2 ?_; refine XC.seq ?_; refine XC.block ?_; refine XC.seq ?_; refine XC.region ?_; refine XO.move rfl rfl ?_; refine XO.indexN rfl hs rfl Try.underlying23 ty_3 (by omega) rfl ?_; rintro eb14 eo14 _ x14 hx14 rfl hp14; refine XO.loadH rfl (by assumption) ty_3 rfl rfl rfl ?_; refine XO.assign rfl rfl ?_; refine XO.assign rfl rfl ?_; refine XO.nil ?_; refine XC.seq2 ?_; refine XC.seq ?_; refine XC.seq ?_; refine XC.region ?_; refine XO.move rfl rfl ?_; refine XO.move rfl rfl ?_; refine XO.lenS (ts := #[]) rfl Try.underlying23 rfl ?_; refine XO.geq rfl rfl rfl ?_; refine XO.nil ?_; refine XC.seq2 ?_; refine XC.cond rfl (fun c1_3 => ?_) (fun c1_3 => ?_)
  ·refine XC.seq ?_; refine XC.region ?_; refine XO.assign rfl rfl ?_; refine XO.nil ?_; refine XC.seq2 ?_; refine XC.ret ?_; refine seqX_ret ?_; refine blockR ?_; refine seqX_ret ?_; refine loopX_ret ?_; refine blockR ?_; refine seqX_ret ?_; refine ⟨rfl, _, [], rfl, (by repeat (first | exact List.Sublist.refl _ | apply List.Sublist.cons)), RetR.mk ?_⟩
   first | exact congrArg (Value.int .i64) (cmp_long hc hx14 (by omega)) | exact congrArg (Value.int .i64) (cmp_ne hc hx14 hx22 (by assumption)) | exact congrArg (Value.int .i64) (by rw [hce, if_pos (by omega)]) | exact congrArg (Value.int .i64) (by rw [hce, if_neg (by omega)])
  ·refine XC.skip ?_; refine XC.seq2 ?_; refine XC.seq ?_; refine XC.region ?_; refine XO.move rfl rfl ?_; refine XO.move rfl rfl ?_; refine XO.indexN rfl ht rfl Try.underlying23 ty_3 (by omega) rfl ?_; rintro eb22 eo22 _ x22 hx22 rfl hp22; refine XO.loadH rfl (by assumption) ty_3 rfl rfl rfl ?_; refine XO.assign rfl rfl ?_; refine XO.nil ?_; refine XC.seq2 ?_; refine XC.seq ?_; refine XC.region ?_; refine XO.move rfl rfl ?_; refine XO.move rfl rfl ?_; refine XO.callV rfl (cmp_fn x14 x22 _) rfl ?_; refine XO.assign rfl rfl ?_; refine XO.nil ?_; refine XC.seq2 ?_; refine XC.seq ?_; refine XC.region ?_; refine XO.move rfl rfl ?_; refine XO.neq rfl rfl rfl ?_; refine XO.nil ?_; refine XC.seq2 ?_; refine XC.cond rfl (fun c2_6 => ?_) (fun c2_6 => ?_)
   ·refine XC.seq ?_; refine XC.region ?_; refine XO.move rfl rfl ?_; refine XO.assign rfl rfl ?_; refine XO.nil ?_; refine XC.seq2 ?_; refine XC.ret ?_; refine blockR ?_; refine seqX_ret ?_; refine loopX_ret ?_; refine blockR ?_; refine seqX_ret ?_; refine ⟨rfl, _, [], rfl, (by repeat (first | exact List.Sublist.refl _ | apply List.Sublist.cons)), RetR.mk ?_⟩
    first | exact congrArg (Value.int .i64) (cmp_long hc hx14 (by omega)) | exact congrArg (Value.int .i64) (cmp_ne hc hx14 hx22 (by assumption)) | exact congrArg (Value.int .i64) (by rw [hce, if_pos (by omega)]) | exact congrArg (Value.int .i64) (by rw [hce, if_neg (by omega)])
   ·refine XC.skip ?_; refine blockN ?_; refine XC.seq2 ?_; refine XC.region ?_; refine XO.add rfl rfl (wrap_i64 (by omega) (by omega)) rfl ?_; refine XO.move rfl rfl ?_; refine XO.nil ?_; refine loop_next (k + 1) (by show l.length - (k + 1) < l.length - k; omega) (prov_cons (rfl) (prov_cons (rfl) (prov_cons (rfl) (prov_cons (rfl) (prov_cons (rfl) prov_nil))))) (⟨by show k + 1 ≤ l.length; omega, rfl, cmp_eq hc hx14 hx22 (by omega)⟩) (by repeat (first | exact List.Sublist.refl _ | apply List.Sublist.cons_cons | apply List.Sublist.cons)) (hle0)
 ·obtain rfl : k = l.length := by omega
  have hce := cmp_end hc (Nat.le_refl _)
  refine XC.exit ?_; refine seqX_exit ?_; refine loopX_exit ?_; refine blockHit rfl ?_; refine XC.seq2 ?_; refine XC.seq ?_; refine XC.seq ?_; refine XC.region ?_; refine XO.move rfl rfl ?_; refine XO.lenS (ts := #[]) rfl Try.underlying23 rfl ?_; refine XO.move rfl rfl ?_; refine XO.lenS (ts := #[]) rfl Try.underlying23 rfl ?_; refine XO.lss rfl rfl rfl ?_; refine XO.nil ?_; refine XC.seq2 ?_; refine XC.cond rfl (fun c3_7 => ?_) (fun c3_7 => ?_)
  ·refine XC.seq ?_; refine XC.region ?_; refine XO.assign rfl rfl ?_; refine XO.nil ?_; refine XC.seq2 ?_; refine XC.ret ?_; refine seqX_ret ?_; refine ⟨rfl, _, [], rfl, (by repeat (first | exact List.Sublist.refl _ | apply List.Sublist.cons)), RetR.mk ?_⟩
   first | exact congrArg (Value.int .i64) (cmp_long hc hx14 (by omega)) | exact congrArg (Value.int .i64) (cmp_ne hc hx14 hx22 (by assumption)) | exact congrArg (Value.int .i64) (by rw [hce, if_pos (by omega)]) | exact congrArg (Value.int .i64) (by rw [hce, if_neg (by omega)])
  ·refine XC.skip ?_; refine XC.seq2 ?_; refine XC.seq ?_; refine XC.region ?_; refine XO.assign rfl rfl ?_; refine XO.nil ?_; refine XC.seq2 ?_; refine XC.ret ?_; refine ⟨rfl, _, [], rfl, (by repeat (first | exact List.Sublist.refl _ | apply List.Sublist.cons)), RetR.mk ?_⟩
   first | exact congrArg (Value.int .i64) (cmp_long hc hx14 (by omega)) | exact congrArg (Value.int .i64) (cmp_ne hc hx14 hx22 (by assumption)) | exact congrArg (Value.int .i64) (by rw [hce, if_pos (by omega)]) | exact congrArg (Value.int .i64) (by rw [hce, if_neg (by omega)])
end Go.Proofs

/- Walks that are alike in other seats, in this seat's numbers. -/
set_option autoImplicit false
set_option linter.unusedVariables false
set_option linter.unusedSimpArgs false
namespace Go.Proofs
open Go.XL

theorem or_fn (a : Option Addr) (c : Nat) (l : List Int) (H : Hp) (hs : SlR (intR .i64) H a c l) (hl : l.length < 9223372036854775808) : FnC Try.prog 46 #[.slice a l.length c] H [] (RetR (fun v _ _ => v = .int .i64 (orL l))) := by
 refine FnC.intro (args := [.slice a l.length c]) Try.func46 rfl rfl Try.ntmps46 rfl rfl rfl fun G rest => ?_
 refine XC.seq ?_; refine XC.region ?_; refine XO.assign rfl rfl ?_; refine XO.nil ?_; refine XC.seq2 ?_; refine XC.seq ?_; refine XC.region ?_; refine XO.assign rfl rfl ?_; refine XO.nil ?_; refine XC.seq2 ?_; refine XC.seq ?_; refine XC.seq ?_; refine XC.region ?_; refine XO.move rfl rfl ?_; refine XO.lenS (ts := #[]) rfl Try.underlying23 rfl ?_; refine XO.move rfl rfl ?_; refine XO.nil ?_; refine XC.seq2 ?_; refine XC.block ?_; refine XC.keep [8, 3, 6, 7] rfl ?_; refine XC.loop (base := [(3, _), (6, _), (7, _)]) (fun ζ : Nat => [(8, .int .i64 (ζ : Nat))]) (fun ζ Hl own => ζ ≤ l.length ∧ rest = own ∧ (∀ y ∈ l.take ζ, ¬ (y ≠ 0))) (fun ζ => l.length - ζ) 0 (prov_cons (rfl) (prov_cons (rfl) (prov_cons (rfl) (prov_cons (rfl) prov_nil)))) (by repeat (first | exact List.Sublist.refl _ | apply List.Sublist.cons_cons | apply List.Sublist.cons)) ⟨Nat.zero_le _, rfl, by simp⟩ ?_; rintro k Hl0 _ hle0 ⟨hkk, rfl, hno⟩; replace hs := hs.mono hle0
 try dsimp only at ⊢
 refine XC.seq ?_; refine XC.region ?_; refine XO.lss rfl rfl rfl ?_; refine XO.nil ?_; refine XC.seq2 ?_; refine XC.seq ?_; refine XC.cond rfl (fun c0_1 => ?_) (fun c0_1 => ?_)
 ·refine XC.skip ?_; refine XC.seq2 ?_; refine XC.seq ?_; refine XC.block ?_; refine XC.seq ?_; refine XC.region ?_; refine XO.indexN rfl hs rfl Try.underlying23 ty_3 (by omega) rfl ?_; rintro eb10 eo10 _ x10 hx10 rfl hp10; refine XO.loadH rfl (by assumption) ty_3 rfl rfl rfl ?_; refine XO.assign rfl rfl ?_; refine XO.nil ?_; refine XC.seq2 ?_; refine XC.seq ?_; refine XC.region ?_; refine XO.move rfl rfl ?_; refine XO.move rfl rfl ?_; refine XO.neq rfl rfl rfl ?_; refine XO.nil ?_; refine XC.seq2 ?_; refine XC.cond rfl (fun c1_3 => ?_) (fun c1_3 => ?_)
  ·refine XC.seq ?_; refine XC.region ?_; refine XO.move rfl rfl ?_; refine XO.assign rfl rfl ?_; refine XO.nil ?_; refine XC.seq2 ?_; refine XC.ret ?_; refine blockR ?_; refine seqX_ret ?_; refine loopX_ret ?_; refine blockR ?_; refine seqX_ret ?_; refine ⟨rfl, _, [], rfl, (by repeat (first | exact List.Sublist.refl _ | apply List.Sublist.cons)), RetR.mk ?_⟩
   first | exact congrArg (Value.int .i64) (or_at hno hx10 (by omega)) | exact congrArg (Value.int .i64) (or_no hno)
  ·refine XC.skip ?_; refine blockN ?_; refine XC.seq2 ?_; refine XC.region ?_; refine XO.add rfl rfl (wrap_i64 (by omega) (by omega)) rfl ?_; refine XO.move rfl rfl ?_; refine XO.nil ?_; refine loop_next (k + 1) (by show l.length - (k + 1) < l.length - k; omega) (prov_cons (rfl) (prov_cons (rfl) (prov_cons (rfl) (prov_cons (rfl) prov_nil)))) (⟨by show k + 1 ≤ l.length; omega, rfl, all_snoc hno hx10 (by omega)⟩) (by repeat (first | exact List.Sublist.refl _ | apply List.Sublist.cons_cons | apply List.Sublist.cons)) (hle0)
 ·obtain rfl : k = l.length := by omega
  rw [List.take_length] at hno
  refine XC.exit ?_; refine seqX_exit ?_; refine loopX_exit ?_; refine blockHit rfl ?_; refine XC.seq2 ?_; refine XC.seq ?_; refine XC.region ?_; refine XO.move rfl rfl ?_; refine XO.assign rfl rfl ?_; refine XO.nil ?_; refine XC.seq2 ?_; refine XC.ret ?_; refine ⟨rfl, _, [], rfl, (by repeat (first | exact List.Sublist.refl _ | apply List.Sublist.cons)), RetR.mk ?_⟩
  first | exact congrArg (Value.int .i64) (or_at hno hx10 (by omega)) | exact congrArg (Value.int .i64) (or_no hno)
theorem index_fn (a : Option Addr) (c : Nat) (l : List Int) (g : Value) (q : Int → Prop) (H : Hp) (hs : SlR (intR .i64) H a c l) (hl : l.length < 9223372036854775808) (hg : ∀ x ∈ l, FnV Try.prog g [.int .i64 x] H [] (RetR fun u _ _ => ∃ b : Bool, u = .bool b ∧ (b = true ↔ q x))) : FnC Try.prog 65 #[.slice a l.length c, g] H [] (RetR (fun v _ _ => ∃ i : Int, v = .int .i64 i ∧ (0 ≤ i ↔ ∃ x ∈ l, q x))) := by
 refine FnC.intro (args := [.slice a l.length c, g]) Try.func65 rfl rfl Try.ntmps65 rfl rfl rfl fun G rest => ?_
 refine XC.seq ?_; refine XC.region ?_; refine XO.assign rfl rfl ?_; refine XO.nil ?_; refine XC.seq2 ?_; refine XC.seq ?_; refine XC.seq ?_; refine XC.region ?_; refine XO.move rfl rfl ?_; refine XO.lenS (ts := #[]) rfl Try.underlying23 rfl ?_; refine XO.move rfl rfl ?_; refine XO.nil ?_; refine XC.seq2 ?_; refine XC.block ?_; refine XC.keep [8, 0, 1, 7] rfl ?_; refine XC.loop (base := [(0, _), (1, _), (7, _)]) (fun ζ : Nat => [(8, .int .i64 (ζ : Nat))]) (fun ζ Hl own => ζ ≤ l.length ∧ rest = own ∧ (∀ x ∈ l.take ζ, ¬ q x) ∧ (H = Hl)) (fun ζ => l.length - ζ) 0 (prov_cons (rfl) (prov_cons (rfl) (prov_cons (rfl) (prov_cons (rfl) prov_nil)))) (by repeat (first | exact List.Sublist.refl _ | apply List.Sublist.cons_cons | apply List.Sublist.cons)) ⟨Nat.zero_le _, rfl, by simp, rfl⟩ ?_; rintro k Hl0 _ hle0 ⟨hkk, rfl, hno, hHl⟩; replace hs := hs.mono hle0
 try dsimp only at ⊢
 subst hHl
 refine XC.seq ?_; refine XC.region ?_; refine XO.lss rfl rfl rfl ?_; refine XO.nil ?_; refine XC.seq2 ?_; refine XC.seq ?_; refine XC.cond rfl (fun c0_1 => ?_) (fun c0_1 => ?_)
 ·refine XC.skip ?_; refine XC.seq2 ?_; refine XC.seq ?_; refine XC.block ?_; refine XC.seq ?_; refine XC.region ?_; refine XO.move rfl rfl ?_; refine XO.assign rfl rfl ?_; refine XO.nil ?_; refine XC.seq2 ?_; refine XC.seq ?_; refine XC.region ?_; refine XO.move rfl rfl ?_; refine XO.move rfl rfl ?_; refine XO.move rfl rfl ?_; refine XO.indexN rfl hs rfl Try.underlying23 ty_3 (by omega) rfl ?_; rintro eb14 eo14 _ x14 hx14 rfl hp14; refine XO.loadH rfl (by assumption) ty_3 rfl rfl rfl ?_; refine XO.callValK rfl trivial rfl (hg x14 (List.mem_of_getElem? hx14)) rfl ?_; rintro _ ⟨bq, rfl, hqq⟩; refine XO.nil ?_; refine XC.seq2 ?_; refine XC.condB rfl (fun c1_4 => ?_) (fun c1_4 => ?_)
  ·refine XC.seq ?_; refine XC.region ?_; refine XO.move rfl rfl ?_; refine XO.assign rfl rfl ?_; refine XO.nil ?_; refine XC.seq2 ?_; refine XC.ret ?_; refine blockR ?_; refine seqX_ret ?_; refine loopX_ret ?_; refine blockR ?_; refine seqX_ret ?_; refine ⟨rfl, _, [], rfl, (by repeat (first | exact List.Sublist.refl _ | apply List.Sublist.cons)), RetR.mk ?_⟩
   exact ⟨_, rfl, ⟨fun _ => ⟨x14, List.mem_of_getElem? hx14, hqq.1 (by assumption)⟩, fun _ => by omega⟩⟩
  ·refine XC.skip ?_; refine blockN ?_; refine XC.seq2 ?_; refine XC.region ?_; refine XO.add rfl rfl (wrap_i64 (by omega) (by omega)) rfl ?_; refine XO.move rfl rfl ?_; refine XO.nil ?_; refine loop_next (k + 1) (by show l.length - (k + 1) < l.length - k; omega) (prov_cons (rfl) (prov_cons (rfl) (prov_cons (rfl) (prov_cons (rfl) prov_nil)))) (⟨by show k + 1 ≤ l.length; omega, rfl, all_snoc hno hx14 (fun h => by simp_all), rfl⟩) (by repeat (first | exact List.Sublist.refl _ | apply List.Sublist.cons_cons | apply List.Sublist.cons)) (hle0)
 ·obtain rfl : k = l.length := by omega
  rw [List.take_length] at hno
  refine XC.exit ?_; refine seqX_exit ?_; refine loopX_exit ?_; refine blockHit rfl ?_; refine XC.seq2 ?_; refine XC.seq ?_; refine XC.region ?_; refine XO.assign rfl rfl ?_; refine XO.nil ?_; refine XC.seq2 ?_; refine XC.ret ?_; refine ⟨rfl, _, [], rfl, (by repeat (first | exact List.Sublist.refl _ | apply List.Sublist.cons)), RetR.mk ?_⟩
  exact ⟨-1, rfl, ⟨fun h => absurd h (by decide), fun ⟨x, hx, hq⟩ => absurd hq (hno x hx)⟩⟩
theorem containsF_fn (a : Option Addr) (c : Nat) (l : List Int) (g : Value) (q : Int → Prop) (H : Hp) (hs : SlR (intR .i64) H a c l) (hl : l.length < 9223372036854775808) (hg : ∀ x ∈ l, FnV Try.prog g [.int .i64 x] H [] (RetR fun u _ _ => ∃ b : Bool, u = .bool b ∧ (b = true ↔ q x))) : FnC Try.prog 53 #[.slice a l.length c, g] H [] (RetR (fun v _ _ => ∃ b : Bool, v = .bool b ∧ (b = true ↔ ∃ x ∈ l, q x))) := by
 refine FnC.intro (args := [.slice a l.length c, g]) Try.func53 rfl rfl Try.ntmps53 rfl rfl rfl fun G rest => ?_
 refine XC.seq ?_; refine XC.region ?_; refine XO.assign rfl rfl ?_; refine XO.nil ?_; refine XC.seq2 ?_; refine XC.seq ?_; refine XC.region ?_; refine XO.move rfl rfl ?_; refine XO.move rfl rfl ?_; refine XO.callK rfl (index_fn _ _ _ _ _ _ hs hl hg) rfl ?_; rintro _ ⟨iX, rfl, hX⟩; refine XO.geq rfl rfl rfl ?_; refine XO.assign rfl rfl ?_; refine XO.nil ?_; refine XC.seq2 ?_; refine XC.ret ?_; refine ⟨rfl, _, [], rfl, (by repeat (first | exact List.Sublist.refl _ | apply List.Sublist.cons)), RetR.mk ?_⟩
 exact ⟨_, rfl, by rw [decide_eq_true_iff]; exact hX⟩
end Go.Proofs

/- An interface is asked whether it is nil. No statement of the program stands here. -/
set_option autoImplicit false
set_option linter.unusedSimpArgs false
set_option linter.unusedVariables false
namespace Go.XL
section
variable {C : Ctx} {ops : Array Oper} {Q : Exit → St → Prop} {rest : List Oper} {env : Env} {df : List Deferred} {H : Hp} {own : Own} {dst : Option Tmp} {ty : TypeId} {pos : String} {af : Array Edge}
theorem XO.eqlNilI {x : Operand} {t : TypeId} {v : Value} {ms : Array (String × TypeId)} {b : Bool} (hx : ev env x = some v) (hv : (v = .nilIface ∧ b = true) ∨ (∃ t2 u, v = .iface t2 u ∧ b = false)) (ht : C.P.underlying t = some (.interface ms)) (hd : dstOk C.N dst = true) (h : XO C ops Q rest ⟨putE dst (.bool b) env, df, H, own⟩) {yt : TypeId} :
  XO C ops Q (⟨dst, .binOp .eql t x (.const .nilIface) yt, ty, pos, af, none⟩ :: rest) ⟨env, df, H, own⟩ := by
 refine XO.pure rfl rfl hd (fun ρ ha w => ?_) h
 have hy : ρ (.const .nilIface) = .nilIface := ha (.const .nilIface) _ rfl
 have hgd : ∀ w, (eqGuard .eql t x (.const .nilIface) v .nilIface).run C.P w = .ok () w := by
  intro w
  rcases hv with ⟨rfl, rfl⟩ | ⟨t2, u, rfl, rfl⟩
  ·cases x <;> rfl
  ·rfl
 have hbin : (binOp .eql t v .nilIface).run C.P w = .ok (.bool b) w := by
  have e1 : binOp .eql t v .nilIface = (do Pure.pure (Value.bool (← Op.equal t v .nilIface)) : Sem Value) := by
   rcases hv with ⟨rfl, rfl⟩ | ⟨t2, u, rfl, rfl⟩ <;> rfl
  have hv2 : (v = .nilIface ∧ (!b) = false) ∨ (∃ t2 u, v = .iface t2 u ∧ (!b) = true) := by
   rcases hv with ⟨h1, rfl⟩ | ⟨t2, u, h1, rfl⟩
   ·exact .inl ⟨h1, rfl⟩
   ·exact .inr ⟨t2, u, h1, rfl⟩
  rw [e1, Sem.run_bind, equal_nilI hv2 ht]
  cases b <;> rfl
 simp only [execOp, ha _ _ hx, hy, Sem.run_bind, hgd]
 simp only [Result.andThen, hbin]
 rfl
/-- A function value is called; it gives back no block, the published heap may grow. -/
theorem XO.callVH {x : Operand} {xs : List Operand} {ts : Array TypeId} {v : Value} {vs : List Value} {R : Value → Hp → Own → Prop} (hx : ev env x = some v) (hnf : match x with | .func _ => False | _ => True)
  (hxs : evs env xs = some vs) (hf : FnV C.P v vs H [] (RetR R)) (hd : dstOk C.N dst = true)
  (h : ∀ u H' o, Le H H' → R u H' o → XO C ops Q rest ⟨putE dst u env, df, H', own⟩) :
  XO C ops Q (⟨dst, .call { callee := .value x, args := xs.toArray, argTypes := ts }, ty, pos, af, none⟩ :: rest) ⟨env, df, H, own⟩ :=
 XO.callVal0 (l := []) (ownF := []) (rst := own) hx hnf hxs hf hd rfl (fun u H' own' hle hR => ⟨H', own, hle, Le.refl _, by simp, h u H' own' hle hR⟩) (fun _ _ _ _ hR => hR.elim)
end
end Go.XL

/- Boxes: facts about one card, in plain Lean. -/
set_option autoImplicit false
set_option linter.unusedVariables false
set_option linter.unusedSimpArgs false
namespace Go.Proofs
open Go.XL
abbrev PN : List PanicEntry := [{ v := .iface 32 (.int .i64 340), recovered := false }]
theorem all_y {l : List Int} {m : Int} {b : Bool} (h : 1 ≤ l.length ∧ l.length ≤ 64) (hq : b = true ↔ ∃ x ∈ l, ¬ (0 ≤ x ∧ x ≤ m)) : (!b) = decide (keysP l m) := by
  cases b with
  | true =>
    obtain ⟨x, hx, hn⟩ := hq.1 rfl
    exact (decide_eq_false fun h2 => hn (h2.2 x hx)).symm
  | false =>
    refine (decide_eq_true ⟨h, fun x hx => Decidable.byContradiction fun hn => ?_⟩).symm
    exact Bool.noConfusion (hq.2 ⟨x, hx, hn⟩)
theorem all_n {l : List Int} {m : Int} (h : ¬ (1 ≤ l.length ∧ l.length ≤ 64)) : false = decide (keysP l m) := (decide_eq_false fun h2 => h h2.1).symm
theorem sel_ok {s : Card} (h : okC s) : (0 : Int) = selC s := (if_pos h).symm
theorem sel_no {s : Card} (h : ¬ okC s) : (340 : Int) = selC s := (if_neg h).symm
theorem card_y {s t : Card} (hs : s.D.length = 32) (ht : t.D.length = 32) (h1 : s.R = t.R) (h2 : s.E = t.E) (h3 : s.J = t.J) (h4 : s.C = t.C) : decide (n32 s.D = n32 t.D) = decide (s = t) := by
 refine decide_eq_decide.2 ⟨fun h => ?_, fun h => by rw [h]⟩
 have h5 := n32_inj hs ht h
 cases s; cases t; simp only at h1 h2 h3 h4 h5; subst h1; subst h2; subst h3; subst h4; subst h5; rfl
def plcL (s : Card) : List Int := [s.R, s.E, s.J]
theorem plc_R {s t : Card} (h : s.R ≠ t.R) : decide (s.R < t.R) = decide (cmpL (plcL s) (plcL t) < 0) := by
 unfold plcL; rw [cmpL, if_neg (fun e => h (sgn_0.1 e))]; exact decide_eq_decide.2 sgn_neg.symm
theorem plc_E {s t : Card} (h : ¬ s.R ≠ t.R) (h2 : s.E ≠ t.E) : decide (s.E < t.E) = decide (cmpL (plcL s) (plcL t) < 0) := by
 unfold plcL; rw [cmpL, if_pos (sgn_0.2 (Decidable.not_not.1 h)), cmpL, if_neg (fun e => h2 (sgn_0.1 e))]; exact decide_eq_decide.2 sgn_neg.symm
theorem plc_J {s t : Card} (h : ¬ s.R ≠ t.R) (h2 : ¬ s.E ≠ t.E) : decide (s.J < t.J) = decide (cmpL (plcL s) (plcL t) < 0) := by
 unfold plcL; rw [cmpL, if_pos (sgn_0.2 (Decidable.not_not.1 h)), cmpL, if_pos (sgn_0.2 (Decidable.not_not.1 h2)), cmpL]
 by_cases h3 : sgn s.J t.J = 0
 ·rw [if_pos h3]; have := sgn_0.1 h3; rw [decide_eq_false (by omega)]; rfl
 ·rw [if_neg h3]; exact decide_eq_decide.2 sgn_neg.symm
theorem plc_same {s t : Card} : plcL s = plcL t ↔ ¬ cmpL (plcL s) (plcL t) < 0 ∧ ¬ cmpL (plcL t) (plcL s) < 0 := by
 rw [← cmp_0 (a := plcL s) (b := plcL t)]
 have := cmp_anti (plcL s) (plcL t)
 omega
theorem place_2 {s t : Card} (h : ¬ cmpL (plcL s) (plcL t) < 0) : decide (¬ cmpL (plcL t) (plcL s) < 0) = decide (plcL s = plcL t) := decide_eq_decide.2 ⟨fun h2 => plc_same.2 ⟨h, h2⟩, fun h2 => (plc_same.1 h2).2⟩
theorem place_1 {s t : Card} (h : ¬ ¬ cmpL (plcL s) (plcL t) < 0) : false = decide (plcL s = plcL t) := (decide_eq_false fun h2 => h (plc_same.1 h2).1).symm
theorem form_int (n : Int) : formedB (intV n) = true := formed1.2 ⟨rfl, rfl⟩
theorem form_ints : ∀ l : List Int, formedL (l.map intV) = true
 | [] => rfl
 | x :: l => by rw [List.map_cons, formedL, form_int, form_ints l]; rfl
theorem dep_ints : ∀ l : List Int, depthL (l.map intV) = 0
 | [] => rfl
 | x :: l => by rw [List.map_cons, depthL, dep_ints l]; rfl
theorem val_formed (s : Card) : formedB (valC s) = true := by
 unfold valC
 refine formed3.2 ⟨⟨rfl, rfl⟩, ?_⟩
 have h1 : formedB (.mk 3 0 [] (s.C.map intV)) = true := formed3.2 ⟨⟨rfl, rfl⟩, form_ints _⟩
 have h2 : formedB (.mk 2 0 s.D []) = true := formed2.2 ⟨rfl, rfl⟩
 simp only [formedL, form_int, h1, h2, Bool.and_self]
theorem val_depth (s : Card) : depthV (valC s) = 2 := by
 have h0 := dep_ints s.C
 have e1 : ∀ n, depthV (intV n) = 0 := fun n => rfl
 unfold valC
 simp only [depthV, depthL, if_true, e1, h0]
 rfl
theorem val_chk (s : Card) : chkV (valC s) = 0 := chk_0 (val_formed s) (by rw [val_depth]; decide)
theorem wsz_ints : ∀ l : List Int, wszL (l.map intV) = 20 * l.length
  | [] => rfl
  | x :: l => by
    rw [List.map_cons, wszL, wsz_ints l, List.length_cons]
    have : wszV (intV x) = 20 := rfl
    omega
theorem val_wsz {s : Card} (h : s.C.length ≤ 64) (hD : s.D.length = 32) : wszV (valC s) ≤ 1000000 := by
 unfold valC
 have e1 : ∀ n, wszV (intV n) = 20 := fun n => rfl
 have e2 := wsz_ints s.C
 simp only [wszV, wszL, e1, e2, List.length_nil, hD]
 omega
theorem okC_rng {s : Card} (h : okC s) : (0 ≤ s.R ∧ s.R ≤ 7) ∧ (0 ≤ s.E ∧ s.E ≤ 4095) ∧ (0 ≤ s.J ∧ s.J ≤ 255) ∧ (1 ≤ s.C.length ∧ s.C.length ≤ 64) ∧ ∀ x ∈ s.C, 0 ≤ x ∧ x ≤ 1073741788 := ⟨h.1.1.1, h.1.1.2, h.1.2, h.2.1, h.2.2⟩
theorem fit_int {n : Int} (h : -9223372036854775808 ≤ n ∧ n ≤ 9223372036854775807) : Fit (intV n) := .mk _ _ _ _ h (by decide) (by decide) (fun x hx => by cases hx)
theorem val_fit {s : Card} (h : okC s) (hD : s.D.length = 32) : Fit (valC s) := by
 obtain ⟨h1, h2, h3, h4, h5⟩ := okC_rng h
 refine .mk _ _ _ _ (by decide) (by decide) (show (5 : Nat) < 2 ^ 63 by decide) fun x hx => ?_
 simp only [List.mem_cons, List.not_mem_nil, or_false] at hx
 rcases hx with rfl | rfl | rfl | rfl | rfl
 ·exact fit_int (by omega)
 ·exact fit_int (by omega)
 ·exact fit_int (by omega)
 ·refine .mk _ _ _ _ (by decide) (by decide) (by rw [List.length_map]; omega) fun x hx => ?_
  obtain ⟨n, hn, rfl⟩ := List.mem_map.1 hx
  have := h5 n hn
  exact fit_int (by omega)
 ·exact .mk _ _ _ _ (by decide) (by omega) (by decide) (fun x hx => by cases hx)
theorem map_intV_inj : ∀ {l m : List Int}, l.map intV = m.map intV → l = m
  | [], [], _ => rfl
  | [], _ :: _, h => by cases h
  | _ :: _, [], h => by cases h
  | x :: l, y :: m, h => by
    simp only [List.map_cons, List.cons.injEq, intV, Val.mk.injEq] at h
    rw [map_intV_inj h.2, h.1.2.1]
/-- different cards have different texts -/
theorem text_inj {s t : Card} (hs : okC s) (ht : okC t) (hD : s.D.length = 32) (hE : t.D.length = 32) (h : textC s = textC t) : s = t := by
 unfold textC at h
 have e1 : eB (valC s) = encV (valC s) := by unfold eB; rw [if_pos (val_chk s)]
 have e2 : eB (valC t) = encV (valC t) := by unfold eB; rw [if_pos (val_chk t)]
 rw [e1, e2] at h
 have h3 := valP_to 16 (valC s) [] (val_formed s) (by rw [val_depth]; decide) (val_fit hs hD)
 have h4 := valP_to 16 (valC t) [] (val_formed t) (by rw [val_depth]; decide) (val_fit ht hE)
 rw [List.append_nil] at h3 h4
 rw [h, h4] at h3
 have h5 : valC t = valC s := by simpa using h3
 obtain ⟨r, e, j, C, D⟩ := s; obtain ⟨r', e', j', C', D'⟩ := t
 simp only [valC, intV, Val.mk.injEq, List.cons.injEq, true_and, and_true] at h5
 obtain ⟨g1, g2, g3, g4, g5⟩ := h5
 subst g1; subst g2; subst g3; subst g5
 rw [map_intV_inj g4]
/-- the order of cards -/
def ordC (s t : Card) : Int := orL [cmpL (plcL s) (plcL t), cmpB (textC s) (textC t)]
/-- texts as they are handed back -/
def TxtU (s : Card) (H : Hp) (v : Value) : Prop := ∃ a c, v = .slice a (textC s).length c ∧ SlR u8R H a c (textC s)
end Go.Proofs

/- The walks of the functions of boxes: what each of them computes, at any input. -/
set_option maxRecDepth 100000
set_option autoImplicit false
set_option linter.unusedVariables false
set_option linter.unusedSimpArgs false
namespace Go.Proofs
open Go.XL

theorem eg_25 : Try.prog.eqGuardType Try.prog.depth 25 = false := by kernel_rfl
theorem fa_27_0 : fieldF Try.prog 27 0 = some 0 := by kernel_rfl
theorem fa_27_1 : fieldF Try.prog 27 1 = some 1 := by kernel_rfl
theorem fa_27_2 : fieldF Try.prog 27 2 = some 2 := by kernel_rfl
theorem fa_27_3 : fieldF Try.prog 27 3 = some 3 := by kernel_rfl
theorem fa_27_4 : fieldF Try.prog 27 4 = some 4 := by kernel_rfl
theorem ty_23 : tyF Try.prog 23 1 false = true := by kernel_rfl
theorem ty_25 : tyF Try.prog 25 32 true = true := by kernel_rfl
theorem ty_27 : tyF Try.prog 27 36 true = true := by kernel_rfl
theorem ty_32 : tyF Try.prog 32 1 false = true := by kernel_rfl
theorem ty_55 : tyF Try.prog 55 3 true = true := by kernel_rfl
theorem ze_32 : zeroC Try.prog 32 = some [.int .i64 0] := by kernel_rfl
theorem ze_55 : zeroC Try.prog 55 = some [.int .i64 0, .int .i64 0, .int .i64 0] := by kernel_rfl

theorem within_fn (n m : Int) (H : Hp) : FnC Try.prog 51 #[.int .i64 n, .int .i64 m] H [] (RetR (fun v _ _ => v = .bool (decide (0 ≤ n ∧ n ≤ m)))) := by
 refine FnC.intro (args := [.int .i64 n, .int .i64 m]) Try.func51 rfl rfl Try.ntmps51 rfl rfl rfl fun G rest => ?_
 refine XC.seq ?_; refine XC.region ?_; refine XO.assign rfl rfl ?_; refine XO.nil ?_; refine XC.seq2 ?_; refine XC.seq ?_; refine XC.region ?_; refine XO.move rfl rfl ?_; refine XO.geq rfl rfl rfl ?_; refine XO.move rfl rfl ?_; refine XO.guardC rfl rfl rfl rfl (fun g1 => ?_) (fun g1 => ?_)
 ·have g1p := of_decide_eq_true g1
  refine XO.move rfl rfl ?_; refine XO.guardT rfl rfl (g1) rfl ?_; refine XO.move rfl rfl ?_; refine XO.guardT rfl rfl (g1) rfl ?_; refine XO.leq rfl rfl rfl ?_; refine XO.pickT rfl (g1) rfl rfl ?_; refine XO.assign rfl rfl ?_; refine XO.nil ?_; refine XC.seq2 ?_; refine XC.ret ?_; refine ⟨rfl, _, [], rfl, (by repeat (first | exact List.Sublist.refl _ | apply List.Sublist.cons)), RetR.mk ?_⟩
  first | rfl | exact congrArg Value.bool (decide_eq_decide.2 (by omega)) | exact congrArg Value.bool (decide_eq_false (by omega)).symm | exact congrArg Value.bool (decide_eq_true (by omega)).symm
 ·have g1p := of_decide_eq_false g1
  refine XO.guardF rfl rfl (g1) rfl rfl ?_; refine XO.guardF rfl rfl (g1) rfl rfl ?_; refine XO.pickF rfl (g1) rfl rfl ?_; refine XO.assign rfl rfl ?_; refine XO.nil ?_; refine XC.seq2 ?_; refine XC.ret ?_; refine ⟨rfl, _, [], rfl, (by repeat (first | exact List.Sublist.refl _ | apply List.Sublist.cons)), RetR.mk ?_⟩
  first | rfl | exact congrArg Value.bool (decide_eq_decide.2 (by omega)) | exact congrArg Value.bool (decide_eq_false (by omega)).symm | exact congrArg Value.bool (decide_eq_true (by omega)).symm

theorem out_fn (n m : Int) (b : Nat) (H : Hp) (hp : PtH H b 0 [.int .i64 m]) : FnC Try.prog 52 #[.int .i64 n, .pointer (some ⟨b, 0, none⟩)] H [] (RetR (fun v _ _ => v = .bool (decide (¬ (0 ≤ n ∧ n ≤ m))))) := by
 refine FnC.intro (args := [.int .i64 n, .pointer (some ⟨b, 0, none⟩)]) Try.func52 rfl rfl Try.ntmps52 rfl rfl rfl fun G rest => ?_
 refine XC.seq ?_; refine XC.region ?_; refine XO.assign rfl rfl ?_; refine XO.nil ?_; refine XC.seq2 ?_; refine XC.seq ?_; refine XC.region ?_; refine XO.move rfl rfl ?_; refine XO.loadH rfl (by assumption) ty_3 rfl rfl rfl ?_; refine XO.callV rfl (within_fn n m _) rfl ?_; refine XO.not rfl rfl ?_; refine XO.assign rfl rfl ?_; refine XO.nil ?_; refine XC.seq2 ?_; refine XC.ret ?_; refine ⟨rfl, _, [], rfl, (by repeat (first | exact List.Sublist.refl _ | apply List.Sublist.cons)), RetR.mk ?_⟩
 rfl
theorem out_v (n m : Int) (b : Nat) (H : Hp) (hp : PtH H b 0 [.int .i64 m]) : FnV Try.prog (.func (.func 52) #[] #[.pointer (some ⟨b, 0, none⟩)]) [.int .i64 n] H [] (RetR fun u _ _ => ∃ q : Bool, u = .bool q ∧ (q = true ↔ ¬ (0 ≤ n ∧ n ≤ m))) := by
 refine (FnV.of_fn (cap := [_]) (args := [_]) (out_fn n m b H hp)).mono ?_
 intro e H' o' hle h
 cases e with
 | returned u => exact ⟨_, h, decide_eq_true_iff⟩
 | panicked _ => exact h
 | outgrown => exact h

theorem all_fn (a : Option Addr) (c : Nat) (l : List Int) (H : Hp) (hs : SlR (intR .i64) H a c l) (hl : l.length < 9223372036854775808) (m : Int) : FnC Try.prog 41 #[.slice a l.length c, .int .i64 m] H [] (RetR (fun v _ _ => v = .bool (decide (keysP l m)))) := by
 refine FnC.intro (args := [.slice a l.length c, .int .i64 m]) Try.func41 rfl rfl Try.ntmps41 rfl rfl rfl fun G rest => ?_
 refine XC.seq ?_; refine XC.region ?_; refine XO.box rfl rfl rfl (fun b3 => ?_); refine XO.assign rfl rfl ?_; refine XO.nil ?_; refine XC.seq2 ?_; refine XC.seq ?_; refine XC.region ?_; refine XO.publish 0 rfl rfl rfl (fun HK3 oK3 hleK3 hbK3 hoK3 => ?_)
 have hpK3 := PtH.of_is hbK3 hoK3
 replace hs := hs.mono hleK3; refine XO.makeFunc rfl rfl ?_; refine XO.assign rfl rfl ?_; refine XO.nil ?_; refine XC.seq2 ?_; refine XC.seq ?_; refine XC.region ?_; refine XO.move rfl rfl ?_; refine XO.lenS (ts := #[]) rfl Try.underlying23 rfl ?_; refine XO.sub rfl rfl (wrap_i64 (by omega) (by omega)) rfl ?_; refine XO.callV rfl (within_fn ((l.length : Int) - 1) 63 _) rfl ?_; refine XO.move rfl rfl ?_; refine XO.guardC rfl rfl rfl rfl (fun g2 => ?_) (fun g2 => ?_)
 ·have g2p := of_decide_eq_true g2
  refine XO.move rfl rfl ?_; refine XO.guardT rfl rfl (g2) rfl ?_; refine XO.move rfl rfl ?_; refine XO.guardT rfl rfl (g2) rfl ?_; refine XO.callK rfl (containsF_fn _ _ l _ (fun x => ¬ (0 ≤ x ∧ x ≤ m)) _ hs hl (fun x _ => out_v x m b3 _ hpK3)) rfl ?_; rintro _ ⟨bq, rfl, hbq⟩; refine XO.guardT rfl rfl (g2) rfl ?_; refine XO.notB rfl rfl ?_; refine XO.pickT rfl (g2) rfl rfl ?_; refine XO.assign rfl rfl ?_; refine XO.nil ?_; refine XC.seq2 ?_; refine XC.ret ?_; refine ⟨rfl, _, [], rfl, (by repeat (first | exact List.Sublist.refl _ | apply List.Sublist.cons)), RetR.mk ?_⟩
  first | exact congrArg Value.bool (all_y (by omega) hbq) | exact congrArg Value.bool (all_n (by omega))
 ·have g2p := of_decide_eq_false g2
  refine XO.guardF rfl rfl (g2) rfl rfl ?_; refine XO.guardF rfl rfl (g2) rfl rfl ?_; refine XO.guardF rfl rfl (g2) rfl rfl ?_; refine XO.pickF rfl (g2) rfl rfl ?_; refine XO.assign rfl rfl ?_; refine XO.nil ?_; refine XC.seq2 ?_; refine XC.ret ?_; refine ⟨rfl, _, [], rfl, (by repeat (first | exact List.Sublist.refl _ | apply List.Sublist.cons)), RetR.mk ?_⟩
  first | exact congrArg Value.bool (all_y (by omega) hbq) | exact congrArg Value.bool (all_n (by omega))

theorem need_ok (b : Bool) (hb : b = true) (H : Hp) : FnC Try.prog 40 #[.bool b] H [] (RetR (fun v _ _ => v = .tuple #[])) := by
 refine FnC.intro (args := [.bool b]) Try.func40 rfl rfl Try.ntmps40 rfl rfl rfl fun G rest => ?_
 refine XC.seq ?_; refine XC.region ?_; refine XO.move rfl rfl ?_; refine XO.notB rfl rfl ?_; refine XO.nil ?_; refine XC.seq2 ?_; refine XC.condF rfl (by rw [hb]; rfl) ?_; refine XC.skip ?_; refine ⟨rfl, _, [], rfl, (by repeat (first | exact List.Sublist.refl _ | apply List.Sublist.cons)), RetR.mk ?_⟩
 rfl

theorem need_bad (b : Bool) (hb : b = false) (H : Hp) : FnC Try.prog 40 #[.bool b] H [] (PanR PN) := by
 refine FnC.intro (args := [.bool b]) Try.func40 rfl rfl Try.ntmps40 rfl rfl rfl fun G rest => ?_
 refine XC.seq ?_; refine XC.region ?_; refine XO.move rfl rfl ?_; refine XO.notB rfl rfl ?_; refine XO.nil ?_; refine XC.seq2 ?_; refine XC.condT rfl (by rw [hb]; rfl) ?_; refine XC.region ?_; refine XO.makeInterface rfl Try.underlying32 (by intro _ h; cases h) rfl ?_; refine XO.panic rfl ?_; refine ⟨rfl, [], (by repeat (first | exact List.Sublist.refl _ | apply List.Sublist.cons)), PanR.mk⟩

theorem placed_ok (s : Card) (a : Option Addr) (c : Nat) (H : Hp) (hs : SlR (intR .i64) H a c s.C) (hD : s.D.length = 32) (hp : plcP s) : FnC Try.prog 39 #[.agg ⟨cardV s.R s.E s.J s.C.length s.D a c⟩] H [] (RetR (fun v _ _ => v = .tuple #[])) := by
 refine FnC.intro (args := [.agg ⟨cardV s.R s.E s.J s.C.length s.D a c⟩]) Try.func39 rfl rfl Try.ntmps39 rfl rfl rfl fun G rest => ?_
 refine XC.seq ?_; refine XC.region ?_; refine XO.box rfl rfl rfl (fun b1 => ?_); refine XO.nil ?_; refine XC.seq2 ?_; refine XC.region ?_; refine XO.fieldAddr rfl fa_27_0 rfl ?_; refine XO.loadO 0 rfl rfl ty_3 rfl rfl rfl ?_; refine XO.callV rfl (within_fn s.R 7 _) rfl ?_; refine XO.move rfl rfl ?_; refine XO.guardT rfl rfl (decide_eq_true hp.1.1) rfl ?_; refine XO.fieldAddr rfl fa_27_1 rfl ?_; refine XO.guardT rfl rfl (decide_eq_true hp.1.1) rfl ?_; refine XO.loadO 0 rfl rfl ty_3 rfl rfl rfl ?_; refine XO.guardT rfl rfl (decide_eq_true hp.1.1) rfl ?_; refine XO.callV rfl (within_fn s.E 4095 _) rfl ?_; refine XO.pickT rfl (decide_eq_true hp.1.1) rfl rfl ?_; refine XO.move rfl rfl ?_; refine XO.guardT rfl rfl (decide_eq_true hp.1.2) rfl ?_; refine XO.fieldAddr rfl fa_27_2 rfl ?_; refine XO.guardT rfl rfl (decide_eq_true hp.1.2) rfl ?_; refine XO.loadO 0 rfl rfl ty_3 rfl rfl rfl ?_; refine XO.guardT rfl rfl (decide_eq_true hp.1.2) rfl ?_; refine XO.callV rfl (within_fn s.J 255 _) rfl ?_; refine XO.pickT rfl (decide_eq_true hp.1.2) rfl rfl ?_; refine XO.callV rfl (need_ok _ (decide_eq_true hp.2) _) rfl ?_; refine XO.nil ?_; refine ⟨rfl, _, [], rfl, (by repeat (first | exact List.Sublist.refl _ | apply List.Sublist.cons)), RetR.mk ?_⟩
 rfl

theorem placed_bad (s : Card) (a : Option Addr) (c : Nat) (H : Hp) (hs : SlR (intR .i64) H a c s.C) (hD : s.D.length = 32) (hp : ¬ plcP s) : FnC Try.prog 39 #[.agg ⟨cardV s.R s.E s.J s.C.length s.D a c⟩] H [] (PanR PN) := by
 refine FnC.intro (args := [.agg ⟨cardV s.R s.E s.J s.C.length s.D a c⟩]) Try.func39 rfl rfl Try.ntmps39 rfl rfl rfl fun G rest => ?_
 refine XC.seq ?_; refine XC.region ?_; refine XO.box rfl rfl rfl (fun b1 => ?_); refine XO.nil ?_; refine XC.seq2 ?_; refine XC.region ?_; refine XO.fieldAddr rfl fa_27_0 rfl ?_; refine XO.loadO 0 rfl rfl ty_3 rfl rfl rfl ?_; refine XO.callV rfl (within_fn s.R 7 _) rfl ?_; refine XO.move rfl rfl ?_; refine XO.guardC rfl rfl rfl rfl (fun g2 => ?_) (fun g2 => ?_)
 ·have g2p := of_decide_eq_true g2
  refine XO.fieldAddr rfl fa_27_1 rfl ?_; refine XO.guardT rfl rfl (g2) rfl ?_; refine XO.loadO 0 rfl rfl ty_3 rfl rfl rfl ?_; refine XO.guardT rfl rfl (g2) rfl ?_; refine XO.callV rfl (within_fn s.E 4095 _) rfl ?_; refine XO.pickT rfl (g2) rfl rfl ?_; refine XO.move rfl rfl ?_; refine XO.guardC rfl rfl rfl rfl (fun g4 => ?_) (fun g4 => ?_)
  ·have g4p := of_decide_eq_true g4
   refine XO.fieldAddr rfl fa_27_2 rfl ?_; refine XO.guardT rfl rfl (g4) rfl ?_; refine XO.loadO 0 rfl rfl ty_3 rfl rfl rfl ?_; refine XO.guardT rfl rfl (g4) rfl ?_; refine XO.callV rfl (within_fn s.J 255 _) rfl ?_; refine XO.pickT rfl (g4) rfl rfl ?_; refine XO.callP rfl (need_bad _ (by first | rfl | exact decide_eq_false (fun h => hp ⟨⟨by assumption, by assumption⟩, h⟩)) _) rfl (fun HB hleB => ?_); refine ⟨rfl, [], (by repeat (first | exact List.Sublist.refl _ | apply List.Sublist.cons)), PanR.mk⟩
  ·have g4p := of_decide_eq_false g4
   refine XO.guardF rfl rfl (g4) rfl rfl ?_; refine XO.guardF rfl rfl (g4) rfl rfl ?_; refine XO.pickF rfl (g4) rfl rfl ?_; refine XO.callP rfl (need_bad _ (by first | rfl | exact decide_eq_false (fun h => hp ⟨⟨by assumption, by assumption⟩, h⟩)) _) rfl (fun HB hleB => ?_); refine ⟨rfl, [], (by repeat (first | exact List.Sublist.refl _ | apply List.Sublist.cons)), PanR.mk⟩
 ·have g2p := of_decide_eq_false g2
  refine XO.guardF rfl rfl (g2) rfl rfl ?_; refine XO.guardF rfl rfl (g2) rfl rfl ?_; refine XO.pickF rfl (g2) rfl rfl ?_; refine XO.move rfl rfl ?_; refine XO.guardF rfl rfl (rfl) rfl rfl ?_; refine XO.guardF rfl rfl (rfl) rfl rfl ?_; refine XO.guardF rfl rfl (rfl) rfl rfl ?_; refine XO.pickF rfl (rfl) rfl rfl ?_; refine XO.callP rfl (need_bad _ (by first | rfl | exact decide_eq_false (fun h => hp ⟨⟨by assumption, by assumption⟩, h⟩)) _) rfl (fun HB hleB => ?_); refine ⟨rfl, [], (by repeat (first | exact List.Sublist.refl _ | apply List.Sublist.cons)), PanR.mk⟩

theorem caught_ret (be : Nat) (x : Int) (H : Hp) : FnD Try.prog 38 #[.pointer (some ⟨be, 0, none⟩)] (.returning) H [(be, .cells 32 [.int .i64 x])] (fun u _ own => u = .returning ∧ own = [(be, .cells 32 [.int .i64 x])]) := by
 refine FnD.intro (args := [.pointer (some ⟨be, 0, none⟩)]) Try.func38 rfl rfl Try.ntmps38 rfl rfl rfl fun G rest => ?_
 refine XS.seq ?_; refine XS.recover rfl rfl ?_; refine XO.nil ?_; refine XS.of rfl ?_; refine XC.block ?_; refine XC.seq ?_; refine XC.region ?_; refine XO.eqlNilI rfl (Or.inl ⟨rfl, rfl⟩) Try.underlying20 rfl ?_; refine XO.nil ?_; refine XC.seq2 ?_; refine XC.condT rfl (rfl) ?_; refine XC.region ?_; refine XO.assign rfl rfl ?_; refine XO.nil ?_; refine blockN ?_; refine ⟨rfl, _, [(be, .cells 32 [.int .i64 x])], rfl, (by repeat (first | exact List.Sublist.refl _ | apply List.Sublist.cons)), ?_⟩
 exact ⟨rfl, rfl⟩

theorem caught_pan (be : Nat) (x y : Int) (H : Hp) : FnD Try.prog 38 #[.pointer (some ⟨be, 0, none⟩)] (.panicking [{ v := .iface 32 (.int .i64 y), recovered := false }]) H [(be, .cells 32 [.int .i64 x])] (fun u _ own => settle u = .returning ∧ own = [(be, .cells 32 [.int .i64 y])]) := by
 refine FnD.intro (args := [.pointer (some ⟨be, 0, none⟩)]) Try.func38 rfl rfl Try.ntmps38 rfl rfl rfl fun G rest => ?_
 refine XS.seq ?_; refine XS.recover rfl rfl ?_; refine XO.nil ?_; refine XS.of rfl ?_; refine XC.block ?_; refine XC.seq ?_; refine XC.region ?_; refine XO.eqlNilI rfl (Or.inr ⟨_, _, rfl, rfl⟩) Try.underlying20 rfl ?_; refine XO.nil ?_; refine XC.seq2 ?_; refine XC.condF rfl (rfl) ?_; refine XC.seq ?_; refine XC.region ?_; refine XO.assertOk rfl Try.underlying32 rfl ?_; refine XO.extract rfl rfl rfl ?_; refine XO.extract rfl rfl rfl ?_; refine XO.nil ?_; refine XC.seq2 ?_; refine XC.condT rfl (rfl) ?_; refine XC.seq ?_; refine XC.region ?_; refine XO.assign rfl rfl ?_; refine XO.nil ?_; refine XC.seq2 ?_; refine XC.region ?_; refine XO.move rfl rfl ?_; refine XO.move rfl rfl ?_; refine XO.nilCheckP rfl rfl ?_; refine XO.storeO 0 rfl rfl rfl rfl ty_32 rfl rfl rfl rfl rfl ?_; refine XO.nil ?_; refine blockN ?_; refine ⟨rfl, _, [(be, .cells 32 [.int .i64 y])], rfl, (by repeat (first | exact List.Sublist.refl _ | apply List.Sublist.cons)), ?_⟩
 exact ⟨rfl, rfl⟩

theorem selcheck0_fn (s : Card) (a : Option Addr) (c : Nat) (H : Hp) (hs : SlR (intR .i64) H a c s.C) (hD : s.D.length = 32) (hl : s.C.length < 9223372036854775808) : FnC Try.prog 21 #[.agg ⟨cardV s.R s.E s.J s.C.length s.D a c⟩] H [] (RetR (fun v H2 own => own = [] ∧ v = .int .i64 (selC s))) := by
 refine FnC.introD (args := [.agg ⟨cardV s.R s.E s.J s.C.length s.D a c⟩]) Try.func21 rfl rfl Try.ntmps21 rfl rfl rfl fun G rest => ?_
 refine XC.seq ?_; refine XC.region ?_; refine XO.box rfl rfl rfl (fun b1 => ?_); refine XO.alloc ze_32 rfl (fun b2 => ?_); refine XO.nil ?_; refine XC.seq2 ?_; refine XC.seq ?_; refine XC.region ?_; refine XO.defer0 (L := [_, _]) rfl rfl rfl rfl rfl (fun msD rest hrest => ?_)
 simp only [List.cons_append, List.nil_append]
 refine XO.nil ?_; refine XC.seq2 ?_; refine XC.seq ?_; refine XC.region ?_; refine XO.loadO 1 rfl rfl ty_27 rfl rfl rfl ?_
 by_cases hwb2 : plcP s
 ·skip
  refine XO.callV rfl (placed_ok s a c _ hs hD hwb2) rfl ?_; refine XO.nil ?_; refine XC.seq2 ?_; refine XC.seq ?_; refine XC.region ?_; refine XO.fieldAddr rfl fa_27_3 rfl ?_; refine XO.loadO 1 rfl rfl ty_23 rfl rfl rfl ?_; refine XO.callV rfl (all_fn a c s.C _ hs hl 1073741788) rfl ?_
  by_cases hwb3 : keysP s.C 1073741788
  ·skip
   refine XO.callV rfl (need_ok _ (decide_eq_true hwb3) _) rfl ?_; refine XO.nil ?_; refine XC.seq2 ?_; refine XC.seq ?_; refine XC.region ?_; refine XO.storeO 0 rfl rfl rfl rfl ty_32 rfl rfl rfl rfl rfl ?_; refine XO.nil ?_; refine XC.seq2 ?_; refine XC.ret ?_; refine leaveD_one 0 (L := [_, _]) rfl hrest rfl ((caught_ret _ _ _).mono (fun u2 HE own2 hleE hD => ?_)); obtain ⟨h1, h2⟩ := hD
   subst h2
   replace hs := hs.mono hleE; refine ⟨by subst h1; rfl, _, _, rfl, (resC_cell 0 rfl rfl ty_32 rfl rfl resC_nil), RetR.mk ?_⟩
   exact ⟨rfl, congrArg (Value.int .i64) (sel_ok ⟨hwb2, hwb3⟩)⟩
  ·skip
   refine XO.callP rfl (need_bad _ (decide_eq_false hwb3) _) rfl (fun HB hleB => ?_); replace hs := hs.mono hleB; refine seqX_panic ?_; refine leaveD_one 0 (L := [_, _]) rfl hrest rfl ((caught_pan _ _ _ _).mono (fun u2 HE own2 hleE hD => ?_)); obtain ⟨h1, h2⟩ := hD
   subst h2
   replace hs := hs.mono hleE; refine ⟨h1, _, _, rfl, (resC_cell 0 rfl rfl ty_32 rfl rfl resC_nil), RetR.mk ?_⟩
   exact ⟨rfl, congrArg (Value.int .i64) (sel_no (fun h => hwb3 h.2))⟩
 ·skip
  refine XO.callP rfl (placed_bad s a c _ hs hD hwb2) rfl (fun HB hleB => ?_); replace hs := hs.mono hleB; refine seqX_panic ?_; refine leaveD_one 0 (L := [_, _]) rfl hrest rfl ((caught_pan _ _ _ _).mono (fun u2 HE own2 hleE hD => ?_)); obtain ⟨h1, h2⟩ := hD
  subst h2
  replace hs := hs.mono hleE; refine ⟨h1, _, _, rfl, (resC_cell 0 rfl rfl ty_32 rfl rfl resC_nil), RetR.mk ?_⟩
  exact ⟨rfl, congrArg (Value.int .i64) (sel_no (fun h => hwb2 h.1))⟩
theorem selcheck_fn (s : Card) (a : Option Addr) (c : Nat) (H : Hp) (hs : SlR (intR .i64) H a c s.C) (hD : s.D.length = 32) (hl : s.C.length < 9223372036854775808) : FnC Try.prog 21 #[.agg ⟨cardV s.R s.E s.J s.C.length s.D a c⟩] H [] (RetR (fun v _ _ => v = .int .i64 (selC s))) := by
 refine (selcheck0_fn s a c H hs hD hl).mono ?_
 intro e _ _ _ h
 cases e with
 | returned v => exact h.2
 | panicked _ => exact h.elim
 | outgrown => exact h.elim

theorem sameI_fn (a b : Option Addr) (c d : Nat) (l m : List Int) (H : Hp) (hs : SlR (intR .i64) H a c l) (ht : SlR (intR .i64) H b d m) (hl : l.length < 9223372036854775808) (hm : m.length < 9223372036854775808) : FnC Try.prog 37 #[.slice a l.length c, .slice b m.length d] H [] (RetR (fun v _ _ => v = .bool (decide (l = m)))) := by
 refine FnC.intro (args := [.slice a l.length c, .slice b m.length d]) Try.func37 rfl rfl Try.ntmps37 rfl rfl rfl fun G rest => ?_
 refine XC.seq ?_; refine XC.region ?_; refine XO.assign rfl rfl ?_; refine XO.nil ?_; refine XC.seq2 ?_; refine XC.seq ?_; refine XC.seq ?_; refine XC.region ?_; refine XO.move rfl rfl ?_; refine XO.lenS (ts := #[]) rfl Try.underlying23 rfl ?_; refine XO.move rfl rfl ?_; refine XO.lenS (ts := #[]) rfl Try.underlying23 rfl ?_; refine XO.neq rfl rfl rfl ?_; refine XO.nil ?_; refine XC.seq2 ?_; refine XC.cond rfl (fun c0_1 => ?_) (fun c0_1 => ?_)
 ·refine XC.seq ?_; refine XC.region ?_; refine XO.assign rfl rfl ?_; refine XO.nil ?_; refine XC.seq2 ?_; refine XC.ret ?_; refine seqX_ret ?_; refine ⟨rfl, _, [], rfl, (by repeat (first | exact List.Sublist.refl _ | apply List.Sublist.cons)), RetR.mk ?_⟩
  first | exact congrArg Value.bool (decide_eq_false (fun h => by have := congrArg List.length h; omega)).symm | exact congrArg Value.bool (decide_eq_false (fun h => by subst h; have h2 := Option.some.inj (hxX.symm.trans hxY); omega)).symm | exact congrArg Value.bool (decide_eq_true (heq.trans (List.take_of_length_le (by omega)))).symm
 ·refine XC.skip ?_; refine XC.seq2 ?_; refine XC.seq ?_; refine XC.seq ?_; refine XC.region ?_; refine XO.assign rfl rfl ?_; refine XO.nil ?_; refine XC.seq2 ?_; refine XC.block ?_; refine XC.keep [5, 0, 1] rfl ?_; refine XC.loop (base := [(0, _), (1, _)]) (fun ζ : Nat => [(5, .int .i64 (ζ : Nat))]) (fun ζ Hl own => ζ ≤ l.length ∧ rest = own ∧ (l.take (ζ) = m.take (ζ))) (fun ζ => l.length - ζ) 0 (prov_cons (rfl) (prov_cons (rfl) (prov_cons (rfl) prov_nil))) (by repeat (first | exact List.Sublist.refl _ | apply List.Sublist.cons_cons | apply List.Sublist.cons)) ⟨Nat.zero_le _, rfl, by simp⟩ ?_; rintro k Hl0 _ hle0 ⟨hkk, rfl, heq⟩; replace hs := hs.mono hle0; replace ht := ht.mono hle0
  try dsimp only at ⊢
  refine XC.seq ?_; refine XC.seq ?_; refine XC.region ?_; refine XO.move rfl rfl ?_; refine XO.move rfl rfl ?_; refine XO.lenS (ts := #[]) rfl Try.underlying23 rfl ?_; refine XO.lss rfl rfl rfl ?_; refine XO.nil ?_; refine XC.seq2 ?_; refine XC.cond rfl (fun c1_2 => ?_) (fun c1_2 => ?_)
  ·refine XC.skip ?_; refine XC.seq2 ?_; refine XC.seq ?_; refine XC.block ?_; refine XC.seq ?_; refine XC.keep [0, 1, 5] rfl ?_; obtain ⟨bEX, oEX, rfl⟩ := hs.addr (by omega); obtain ⟨_, xX, hxX, rfl, hpX⟩ := hs.elem (k) (by omega); obtain ⟨bEY, oEY, rfl⟩ := ht.addr (by omega); obtain ⟨_, xY, hxY, rfl, hpY⟩ := ht.elem (k) (by omega)
   apply XC.draw 8 [eqF _, eqF _, eqF _, eqF _, eqF _, eqF _, eqF _, eqF _] follows (by kernel_rfl) (by kernel_rfl) ⟨eqF_mono _, eqF_mono _, eqF_mono _, eqF_mono _, eqF_mono _, eqF_mono _, eqF_mono _, eqF_mono _, trivial⟩ ?steps3 ?tail3
   case steps3 =>
    refine stepsK_cons rfl ?_ ?_
    ·intro X
     refine withPreds_nil rfl ?_; refine XO.move rfl rfl ?_; refine XO.nil ?_
     exact stepQ_ok rfl (rfl)
    refine stepsK_cons rfl ?_ ?_
    ·intro X
     refine withPreds_nil rfl ?_; refine XO.move rfl rfl ?_; refine XO.nil ?_
     exact stepQ_ok rfl (rfl)
    refine stepsK_cons rfl ?_ ?_
    ·intro X
     refine withPreds_cons rfl rfl ?_; rintro _ rfl; refine withPreds_cons rfl rfl ?_; rintro _ rfl; refine withPreds_nil rfl ?_; refine XO.indexE rfl rfl Try.underlying23 ty_3 (by omega) (by omega) rfl ?_; refine XO.nil ?_
     exact stepQ_ok rfl (rfl)
    refine stepsK_cons rfl ?_ ?_
    ·intro X
     refine withPreds_cons rfl rfl ?_; rintro _ rfl; refine withPreds_nil rfl ?_; refine XO.loadH rfl (by assumption) ty_3 rfl rfl rfl ?_; refine XO.nil ?_
     exact stepQ_ok rfl (rfl)
    refine stepsK_cons rfl ?_ ?_
    ·intro X
     refine withPreds_nil rfl ?_; refine XO.move rfl rfl ?_; refine XO.nil ?_
     exact stepQ_ok rfl (rfl)
    refine stepsK_cons rfl ?_ ?_
    ·intro X
     refine withPreds_nil rfl ?_; refine XO.move rfl rfl ?_; refine XO.nil ?_
     exact stepQ_ok rfl (rfl)
    refine stepsK_cons rfl ?_ ?_
    ·intro X
     refine withPreds_cons rfl rfl ?_; rintro _ rfl; refine withPreds_cons rfl rfl ?_; rintro _ rfl; refine withPreds_nil rfl ?_; refine XO.indexE rfl rfl Try.underlying23 ty_3 (by omega) (by omega) rfl ?_; refine XO.nil ?_
     exact stepQ_ok rfl (rfl)
    refine stepsK_cons rfl ?_ ?_
    ·intro X
     refine withPreds_cons rfl rfl ?_; rintro _ rfl; refine withPreds_nil rfl ?_; refine XO.loadH rfl (by assumption) ty_3 rfl rfl rfl ?_; refine XO.nil ?_
     exact stepQ_ok rfl (rfl)
    exact stepsD_end rfl
   case tail3 =>
    refine withPreds_cons rfl rfl ?_; rintro _ rfl; refine withPreds_cons rfl rfl ?_; rintro _ rfl; refine withPreds_cons rfl rfl ?_; rintro _ rfl; refine withPreds_cons rfl rfl ?_; rintro _ rfl; refine withPreds_cons rfl rfl ?_; rintro _ rfl; refine withPreds_cons rfl rfl ?_; rintro _ rfl; refine withPreds_cons rfl rfl ?_; rintro _ rfl; refine withPreds_cons rfl rfl ?_; rintro _ rfl; refine withPreds_nil rfl ?_; refine XO.neq rfl rfl rfl ?_; refine XO.nil ?_; refine XC.seq2 ?_; refine XC.cond rfl (fun c2_6 => ?_) (fun c2_6 => ?_)
    ·refine XC.seq ?_; refine XC.region ?_; refine XO.assign rfl rfl ?_; refine XO.nil ?_; refine XC.seq2 ?_; refine XC.ret ?_; refine blockR ?_; refine seqX_ret ?_; refine loopX_ret ?_; refine blockR ?_; refine seqX_ret ?_; refine ⟨rfl, _, [], rfl, (by repeat (first | exact List.Sublist.refl _ | apply List.Sublist.cons)), RetR.mk ?_⟩
     first | exact congrArg Value.bool (decide_eq_false (fun h => by have := congrArg List.length h; omega)).symm | exact congrArg Value.bool (decide_eq_false (fun h => by subst h; have h2 := Option.some.inj (hxX.symm.trans hxY); omega)).symm | exact congrArg Value.bool (decide_eq_true (heq.trans (List.take_of_length_le (by omega)))).symm
    ·refine XC.skip ?_; refine blockN ?_; refine XC.seq2 ?_; refine XC.region ?_; refine XO.move rfl rfl ?_; refine XO.add rfl rfl (wrap_i64 (by omega) (by omega)) rfl ?_; refine XO.assign rfl rfl ?_; refine XO.nil ?_; refine loop_next (k + 1) (by show l.length - (k + 1) < l.length - k; omega) (prov_cons (rfl) (prov_cons (rfl) (prov_cons (rfl) prov_nil))) (⟨by show k + 1 ≤ l.length; omega, rfl, by rw [take_snoc hxX, take_snoc hxY, heq, show xX = xY by omega]⟩) (by repeat (first | exact List.Sublist.refl _ | apply List.Sublist.cons_cons | apply List.Sublist.cons)) (hle0)
  ·obtain rfl : k = l.length := by omega
   rw [List.take_length] at heq
   refine XC.exit ?_; refine seqX_exit ?_; refine loopX_exit ?_; refine blockHit rfl ?_; refine XC.seq2 ?_; refine XC.seq ?_; refine XC.region ?_; refine XO.assign rfl rfl ?_; refine XO.nil ?_; refine XC.seq2 ?_; refine XC.ret ?_; refine ⟨rfl, _, [], rfl, (by repeat (first | exact List.Sublist.refl _ | apply List.Sublist.cons)), RetR.mk ?_⟩
   first | exact congrArg Value.bool (decide_eq_false (fun h => by have := congrArg List.length h; omega)).symm | exact congrArg Value.bool (decide_eq_false (fun h => by subst h; have h2 := Option.some.inj (hxX.symm.trans hxY); omega)).symm | exact congrArg Value.bool (decide_eq_true (heq.trans (List.take_of_length_le (by omega)))).symm

theorem sameC_fn (s t : Card) (a b : Option Addr) (c d : Nat) (H : Hp) (hs : SlR (intR .i64) H a c s.C) (ht : SlR (intR .i64) H b d t.C) (hD : s.D.length = 32) (hE : t.D.length = 32) (hl : s.C.length < 9223372036854775808) (hm : t.C.length < 9223372036854775808) : FnC Try.prog 20 #[.agg ⟨cardV s.R s.E s.J s.C.length s.D a c⟩, .agg ⟨cardV t.R t.E t.J t.C.length t.D b d⟩] H [] (RetR (fun v _ _ => v = .bool (decide (s = t)))) := by
 refine FnC.intro (args := [.agg ⟨cardV s.R s.E s.J s.C.length s.D a c⟩, .agg ⟨cardV t.R t.E t.J t.C.length t.D b d⟩]) Try.func20 rfl rfl Try.ntmps20 rfl rfl rfl fun G rest => ?_
 refine XC.seq ?_; refine XC.region ?_; refine XO.box rfl rfl rfl (fun b2 => ?_); refine XO.box rfl rfl rfl (fun b3 => ?_); refine XO.assign rfl rfl ?_; refine XO.nil ?_; refine XC.seq2 ?_; refine XC.seq ?_; refine XC.region ?_; refine XO.fieldAddr rfl fa_27_0 rfl ?_; refine XO.loadO 1 rfl rfl ty_3 rfl rfl rfl ?_; refine XO.fieldAddr rfl fa_27_0 rfl ?_; refine XO.loadO 0 rfl rfl ty_3 rfl rfl rfl ?_; refine XO.eql rfl rfl rfl ?_; refine XO.move rfl rfl ?_; refine XO.guardC rfl rfl rfl rfl (fun g1 => ?_) (fun g1 => ?_)
 ·have g1p := of_decide_eq_true g1
  refine XO.fieldAddr rfl fa_27_1 rfl ?_; refine XO.guardT rfl rfl (g1) rfl ?_; refine XO.loadO 1 rfl rfl ty_3 rfl rfl rfl ?_; refine XO.guardT rfl rfl (g1) rfl ?_; refine XO.fieldAddr rfl fa_27_1 rfl ?_; refine XO.guardT rfl rfl (g1) rfl ?_; refine XO.loadO 0 rfl rfl ty_3 rfl rfl rfl ?_; refine XO.guardT rfl rfl (g1) rfl ?_; refine XO.eql rfl rfl rfl ?_; refine XO.pickT rfl (g1) rfl rfl ?_; refine XO.move rfl rfl ?_; refine XO.guardC rfl rfl rfl rfl (fun g2 => ?_) (fun g2 => ?_)
  ·have g2p := of_decide_eq_true g2
   refine XO.fieldAddr rfl fa_27_2 rfl ?_; refine XO.guardT rfl rfl (g2) rfl ?_; refine XO.loadO 1 rfl rfl ty_3 rfl rfl rfl ?_; refine XO.guardT rfl rfl (g2) rfl ?_; refine XO.fieldAddr rfl fa_27_2 rfl ?_; refine XO.guardT rfl rfl (g2) rfl ?_; refine XO.loadO 0 rfl rfl ty_3 rfl rfl rfl ?_; refine XO.guardT rfl rfl (g2) rfl ?_; refine XO.eql rfl rfl rfl ?_; refine XO.pickT rfl (g2) rfl rfl ?_; refine XO.move rfl rfl ?_; refine XO.guardC rfl rfl rfl rfl (fun g3 => ?_) (fun g3 => ?_)
   ·have g3p := of_decide_eq_true g3
    refine XO.fieldAddr rfl fa_27_3 rfl ?_; refine XO.guardT rfl rfl (g3) rfl ?_; refine XO.loadO 1 rfl rfl ty_23 rfl rfl rfl ?_; refine XO.guardT rfl rfl (g3) rfl ?_; refine XO.fieldAddr rfl fa_27_3 rfl ?_; refine XO.guardT rfl rfl (g3) rfl ?_; refine XO.loadO 0 rfl rfl ty_23 rfl rfl rfl ?_; refine XO.guardT rfl rfl (g3) rfl ?_; refine XO.callV rfl (sameI_fn _ _ _ _ s.C t.C _ hs ht hl hm) rfl ?_; refine XO.pickT rfl (g3) rfl rfl ?_; refine XO.move rfl rfl ?_; refine XO.guardC rfl rfl rfl rfl (fun g5 => ?_) (fun g5 => ?_)
    ·have g5p := of_decide_eq_true g5
     refine XO.fieldAddr rfl fa_27_4 rfl ?_; refine XO.guardT rfl rfl (g5) rfl ?_; refine XO.loadO 1 rfl rfl ty_25 rfl rfl rfl ?_; refine XO.guardT rfl rfl (g5) rfl ?_; refine XO.fieldAddr rfl fa_27_4 rfl ?_; refine XO.guardT rfl rfl (g5) rfl ?_; refine XO.loadO 0 rfl rfl ty_25 rfl rfl rfl ?_; refine XO.guardT rfl rfl (g5) rfl ?_; refine XO.eqlAr (l := n32 s.D) (m := n32 t.D) rfl rfl rfl rfl rfl rfl Try.underlying25 eg_25 Try.underlying5 ty_5 rfl ?_; refine XO.pickT rfl (g5) rfl rfl ?_; refine XO.assign rfl rfl ?_; refine XO.nil ?_; refine XC.seq2 ?_; refine XC.ret ?_; refine ⟨rfl, _, [], rfl, (by repeat (first | exact List.Sublist.refl _ | apply List.Sublist.cons)), RetR.mk ?_⟩
     first | exact congrArg Value.bool (card_y hD hE (by assumption) (by assumption) (by assumption) (by assumption)) | exact congrArg Value.bool (decide_eq_false (fun h => by subst h; exact absurd rfl (by assumption))).symm
    ·have g5p := of_decide_eq_false g5
     refine XO.guardF rfl rfl (g5) rfl rfl ?_; refine XO.guardF rfl rfl (g5) rfl rfl ?_; refine XO.guardF rfl rfl (g5) rfl rfl ?_; refine XO.guardF rfl rfl (g5) rfl rfl ?_; refine XO.pickF rfl (g5) rfl rfl ?_; refine XO.assign rfl rfl ?_; refine XO.nil ?_; refine XC.seq2 ?_; refine XC.ret ?_; refine ⟨rfl, _, [], rfl, (by repeat (first | exact List.Sublist.refl _ | apply List.Sublist.cons)), RetR.mk ?_⟩
     first | exact congrArg Value.bool (card_y hD hE (by assumption) (by assumption) (by assumption) (by assumption)) | exact congrArg Value.bool (decide_eq_false (fun h => by subst h; exact absurd rfl (by assumption))).symm
   ·have g3p := of_decide_eq_false g3
    refine XO.guardF rfl rfl (g3) rfl rfl ?_; refine XO.guardF rfl rfl (g3) rfl rfl ?_; refine XO.guardF rfl rfl (g3) rfl rfl ?_; refine XO.guardF rfl rfl (g3) rfl rfl ?_; refine XO.pickF rfl (g3) rfl rfl ?_; refine XO.move rfl rfl ?_; refine XO.guardF rfl rfl (rfl) rfl rfl ?_; refine XO.guardF rfl rfl (rfl) rfl rfl ?_; refine XO.guardF rfl rfl (rfl) rfl rfl ?_; refine XO.guardF rfl rfl (rfl) rfl rfl ?_; refine XO.guardF rfl rfl (rfl) rfl rfl ?_; refine XO.pickF rfl (rfl) rfl rfl ?_; refine XO.assign rfl rfl ?_; refine XO.nil ?_; refine XC.seq2 ?_; refine XC.ret ?_; refine ⟨rfl, _, [], rfl, (by repeat (first | exact List.Sublist.refl _ | apply List.Sublist.cons)), RetR.mk ?_⟩
    first | exact congrArg Value.bool (card_y hD hE (by assumption) (by assumption) (by assumption) (by assumption)) | exact congrArg Value.bool (decide_eq_false (fun h => by subst h; exact absurd rfl (by assumption))).symm
  ·have g2p := of_decide_eq_false g2
   refine XO.guardF rfl rfl (g2) rfl rfl ?_; refine XO.guardF rfl rfl (g2) rfl rfl ?_; refine XO.guardF rfl rfl (g2) rfl rfl ?_; refine XO.guardF rfl rfl (g2) rfl rfl ?_; refine XO.pickF rfl (g2) rfl rfl ?_; refine XO.move rfl rfl ?_; refine XO.guardF rfl rfl (rfl) rfl rfl ?_; refine XO.guardF rfl rfl (rfl) rfl rfl ?_; refine XO.guardF rfl rfl (rfl) rfl rfl ?_; refine XO.guardF rfl rfl (rfl) rfl rfl ?_; refine XO.guardF rfl rfl (rfl) rfl rfl ?_; refine XO.pickF rfl (rfl) rfl rfl ?_; refine XO.move rfl rfl ?_; refine XO.guardF rfl rfl (rfl) rfl rfl ?_; refine XO.guardF rfl rfl (rfl) rfl rfl ?_; refine XO.guardF rfl rfl (rfl) rfl rfl ?_; refine XO.guardF rfl rfl (rfl) rfl rfl ?_; refine XO.guardF rfl rfl (rfl) rfl rfl ?_; refine XO.pickF rfl (rfl) rfl rfl ?_; refine XO.assign rfl rfl ?_; refine XO.nil ?_; refine XC.seq2 ?_; refine XC.ret ?_; refine ⟨rfl, _, [], rfl, (by repeat (first | exact List.Sublist.refl _ | apply List.Sublist.cons)), RetR.mk ?_⟩
   first | exact congrArg Value.bool (card_y hD hE (by assumption) (by assumption) (by assumption) (by assumption)) | exact congrArg Value.bool (decide_eq_false (fun h => by subst h; exact absurd rfl (by assumption))).symm
 ·have g1p := of_decide_eq_false g1
  refine XO.guardF rfl rfl (g1) rfl rfl ?_; refine XO.guardF rfl rfl (g1) rfl rfl ?_; refine XO.guardF rfl rfl (g1) rfl rfl ?_; refine XO.guardF rfl rfl (g1) rfl rfl ?_; refine XO.pickF rfl (g1) rfl rfl ?_; refine XO.move rfl rfl ?_; refine XO.guardF rfl rfl (rfl) rfl rfl ?_; refine XO.guardF rfl rfl (rfl) rfl rfl ?_; refine XO.guardF rfl rfl (rfl) rfl rfl ?_; refine XO.guardF rfl rfl (rfl) rfl rfl ?_; refine XO.guardF rfl rfl (rfl) rfl rfl ?_; refine XO.pickF rfl (rfl) rfl rfl ?_; refine XO.move rfl rfl ?_; refine XO.guardF rfl rfl (rfl) rfl rfl ?_; refine XO.guardF rfl rfl (rfl) rfl rfl ?_; refine XO.guardF rfl rfl (rfl) rfl rfl ?_; refine XO.guardF rfl rfl (rfl) rfl rfl ?_; refine XO.guardF rfl rfl (rfl) rfl rfl ?_; refine XO.pickF rfl (rfl) rfl rfl ?_; refine XO.move rfl rfl ?_; refine XO.guardF rfl rfl (rfl) rfl rfl ?_; refine XO.guardF rfl rfl (rfl) rfl rfl ?_; refine XO.guardF rfl rfl (rfl) rfl rfl ?_; refine XO.guardF rfl rfl (rfl) rfl rfl ?_; refine XO.guardF rfl rfl (rfl) rfl rfl ?_; refine XO.pickF rfl (rfl) rfl rfl ?_; refine XO.assign rfl rfl ?_; refine XO.nil ?_; refine XC.seq2 ?_; refine XC.ret ?_; refine ⟨rfl, _, [], rfl, (by repeat (first | exact List.Sublist.refl _ | apply List.Sublist.cons)), RetR.mk ?_⟩
  first | exact congrArg Value.bool (card_y hD hE (by assumption) (by assumption) (by assumption) (by assumption)) | exact congrArg Value.bool (decide_eq_false (fun h => by subst h; exact absurd rfl (by assumption))).symm

theorem before_fn (s t : Card) (a b : Option Addr) (c d : Nat) (H : Hp) (hs : SlR (intR .i64) H a c s.C) (ht : SlR (intR .i64) H b d t.C) (hD : s.D.length = 32) (hE : t.D.length = 32) : FnC Try.prog 36 #[.agg ⟨cardV s.R s.E s.J s.C.length s.D a c⟩, .agg ⟨cardV t.R t.E t.J t.C.length t.D b d⟩] H [] (RetR (fun v _ _ => v = .bool (decide (cmpL (plcL s) (plcL t) < 0)))) := by
 refine FnC.intro (args := [.agg ⟨cardV s.R s.E s.J s.C.length s.D a c⟩, .agg ⟨cardV t.R t.E t.J t.C.length t.D b d⟩]) Try.func36 rfl rfl Try.ntmps36 rfl rfl rfl fun G rest => ?_
 refine XC.seq ?_; refine XC.region ?_; refine XO.box rfl rfl rfl (fun b2 => ?_); refine XO.box rfl rfl rfl (fun b3 => ?_); refine XO.assign rfl rfl ?_; refine XO.nil ?_; refine XC.seq2 ?_; refine XC.seq ?_; refine XC.seq ?_; refine XC.region ?_; refine XO.fieldAddr rfl fa_27_0 rfl ?_; refine XO.loadO 1 rfl rfl ty_3 rfl rfl rfl ?_; refine XO.fieldAddr rfl fa_27_0 rfl ?_; refine XO.loadO 0 rfl rfl ty_3 rfl rfl rfl ?_; refine XO.neq rfl rfl rfl ?_; refine XO.nil ?_; refine XC.seq2 ?_; refine XC.cond rfl (fun c0_1 => ?_) (fun c0_1 => ?_)
 ·refine XC.seq ?_; refine XC.region ?_; refine XO.fieldAddr rfl fa_27_0 rfl ?_; refine XO.loadO 1 rfl rfl ty_3 rfl rfl rfl ?_; refine XO.fieldAddr rfl fa_27_0 rfl ?_; refine XO.loadO 0 rfl rfl ty_3 rfl rfl rfl ?_; refine XO.lss rfl rfl rfl ?_; refine XO.assign rfl rfl ?_; refine XO.nil ?_; refine XC.seq2 ?_; refine XC.ret ?_; refine seqX_ret ?_; refine ⟨rfl, _, [], rfl, (by repeat (first | exact List.Sublist.refl _ | apply List.Sublist.cons)), RetR.mk ?_⟩
  first | exact congrArg Value.bool (plc_R (by assumption)) | exact congrArg Value.bool (plc_E (by assumption) (by assumption)) | exact congrArg Value.bool (plc_J (by assumption) (by assumption))
 ·refine XC.skip ?_; refine XC.seq2 ?_; refine XC.seq ?_; refine XC.seq ?_; refine XC.region ?_; refine XO.fieldAddr rfl fa_27_1 rfl ?_; refine XO.loadO 1 rfl rfl ty_3 rfl rfl rfl ?_; refine XO.fieldAddr rfl fa_27_1 rfl ?_; refine XO.loadO 0 rfl rfl ty_3 rfl rfl rfl ?_; refine XO.neq rfl rfl rfl ?_; refine XO.nil ?_; refine XC.seq2 ?_; refine XC.cond rfl (fun c1_2 => ?_) (fun c1_2 => ?_)
  ·refine XC.seq ?_; refine XC.region ?_; refine XO.fieldAddr rfl fa_27_1 rfl ?_; refine XO.loadO 1 rfl rfl ty_3 rfl rfl rfl ?_; refine XO.fieldAddr rfl fa_27_1 rfl ?_; refine XO.loadO 0 rfl rfl ty_3 rfl rfl rfl ?_; refine XO.lss rfl rfl rfl ?_; refine XO.assign rfl rfl ?_; refine XO.nil ?_; refine XC.seq2 ?_; refine XC.ret ?_; refine seqX_ret ?_; refine ⟨rfl, _, [], rfl, (by repeat (first | exact List.Sublist.refl _ | apply List.Sublist.cons)), RetR.mk ?_⟩
   first | exact congrArg Value.bool (plc_R (by assumption)) | exact congrArg Value.bool (plc_E (by assumption) (by assumption)) | exact congrArg Value.bool (plc_J (by assumption) (by assumption))
  ·refine XC.skip ?_; refine XC.seq2 ?_; refine XC.seq ?_; refine XC.region ?_; refine XO.fieldAddr rfl fa_27_2 rfl ?_; refine XO.loadO 1 rfl rfl ty_3 rfl rfl rfl ?_; refine XO.fieldAddr rfl fa_27_2 rfl ?_; refine XO.loadO 0 rfl rfl ty_3 rfl rfl rfl ?_; refine XO.lss rfl rfl rfl ?_; refine XO.assign rfl rfl ?_; refine XO.nil ?_; refine XC.seq2 ?_; refine XC.ret ?_; refine ⟨rfl, _, [], rfl, (by repeat (first | exact List.Sublist.refl _ | apply List.Sublist.cons)), RetR.mk ?_⟩
   first | exact congrArg Value.bool (plc_R (by assumption)) | exact congrArg Value.bool (plc_E (by assumption) (by assumption)) | exact congrArg Value.bool (plc_J (by assumption) (by assumption))

theorem place_fn (s t : Card) (a b : Option Addr) (c d : Nat) (H : Hp) (hs : SlR (intR .i64) H a c s.C) (ht : SlR (intR .i64) H b d t.C) (hD : s.D.length = 32) (hE : t.D.length = 32) : FnC Try.prog 23 #[.agg ⟨cardV s.R s.E s.J s.C.length s.D a c⟩, .agg ⟨cardV t.R t.E t.J t.C.length t.D b d⟩] H [] (RetR (fun v _ _ => v = .bool (decide (plcL s = plcL t)))) := by
 refine FnC.intro (args := [.agg ⟨cardV s.R s.E s.J s.C.length s.D a c⟩, .agg ⟨cardV t.R t.E t.J t.C.length t.D b d⟩]) Try.func23 rfl rfl Try.ntmps23 rfl rfl rfl fun G rest => ?_
 refine XC.seq ?_; refine XC.region ?_; refine XO.box rfl rfl rfl (fun b2 => ?_); refine XO.box rfl rfl rfl (fun b3 => ?_); refine XO.assign rfl rfl ?_; refine XO.nil ?_; refine XC.seq2 ?_; refine XC.seq ?_; refine XC.region ?_; refine XO.loadO 1 rfl rfl ty_27 rfl rfl rfl ?_; refine XO.loadO 0 rfl rfl ty_27 rfl rfl rfl ?_; refine XO.callV rfl (before_fn s t _ _ _ _ _ hs ht hD hE) rfl ?_; refine XO.not rfl rfl ?_; refine XO.move rfl rfl ?_; refine XO.guardC rfl rfl rfl rfl (fun g2 => ?_) (fun g2 => ?_)
 ·have g2p := of_decide_eq_true g2
  refine XO.loadO 0 rfl rfl ty_27 rfl rfl rfl ?_; refine XO.guardT rfl rfl (g2) rfl ?_; refine XO.loadO 1 rfl rfl ty_27 rfl rfl rfl ?_; refine XO.guardT rfl rfl (g2) rfl ?_; refine XO.callV rfl (before_fn t s _ _ _ _ _ ht hs hE hD) rfl ?_; refine XO.guardT rfl rfl (g2) rfl ?_; refine XO.not rfl rfl ?_; refine XO.pickT rfl (g2) rfl rfl ?_; refine XO.assign rfl rfl ?_; refine XO.nil ?_; refine XC.seq2 ?_; refine XC.ret ?_; refine ⟨rfl, _, [], rfl, (by repeat (first | exact List.Sublist.refl _ | apply List.Sublist.cons)), RetR.mk ?_⟩
  first | exact congrArg Value.bool (place_2 (by assumption)) | exact congrArg Value.bool (place_1 (by assumption))
 ·have g2p := of_decide_eq_false g2
  refine XO.guardF rfl rfl (g2) rfl rfl ?_; refine XO.guardF rfl rfl (g2) rfl rfl ?_; refine XO.guardF rfl rfl (g2) rfl rfl ?_; refine XO.pickF rfl (g2) rfl rfl ?_; refine XO.assign rfl rfl ?_; refine XO.nil ?_; refine XC.seq2 ?_; refine XC.ret ?_; refine ⟨rfl, _, [], rfl, (by repeat (first | exact List.Sublist.refl _ | apply List.Sublist.cons)), RetR.mk ?_⟩
  first | exact congrArg Value.bool (place_2 (by assumption)) | exact congrArg Value.bool (place_1 (by assumption))

theorem at_fn (s : Card) (a : Option Addr) (c : Nat) (H : Hp) (hs : SlR (intR .i64) H a c s.C) (hD : s.D.length = 32) : FnC Try.prog 29 #[.agg ⟨cardV s.R s.E s.J s.C.length s.D a c⟩] H [] (RetR (fun v _ _ => v = .agg ⟨[.int .i64 s.R, .int .i64 s.E, .int .i64 s.J]⟩)) := by
 refine FnC.introC (args := [.agg ⟨cardV s.R s.E s.J s.C.length s.D a c⟩]) Try.func29 rfl rfl Try.ntmps29 rfl rfl rfl fun G rest => ?_
 refine XC.seq ?_; refine XC.region ?_; refine XO.box rfl rfl rfl (fun b1 => ?_); refine XO.alloc ze_55 rfl (fun b2 => ?_); refine XO.nil ?_; refine XC.seq2 ?_; refine XC.seq ?_; refine XC.region ?_; refine XO.fieldAddr rfl fa_27_0 rfl ?_; refine XO.loadO 1 rfl rfl ty_3 rfl rfl rfl ?_; refine XO.fieldAddr rfl fa_27_1 rfl ?_; refine XO.loadO 1 rfl rfl ty_3 rfl rfl rfl ?_; refine XO.fieldAddr rfl fa_27_2 rfl ?_; refine XO.loadO 1 rfl rfl ty_3 rfl rfl rfl ?_; refine XO.buildArr Try.underlying55 ty_3 ze_55 rfl rfl rfl ?_; refine XO.storeO 0 rfl rfl rfl rfl ty_55 rfl rfl rfl rfl rfl ?_; refine XO.nil ?_; refine XC.seq2 ?_; refine XC.ret ?_; refine ⟨rfl, _, [], (resC_cell 0 rfl rfl ty_55 rfl rfl resC_nil), (by repeat (first | exact List.Sublist.refl _ | apply List.Sublist.cons)), RetR.mk ?_⟩
 rfl

end Go.Proofs

/- Boxes: what lies in memory while a text is written, in plain Lean. -/
set_option maxRecDepth 100000
set_option autoImplicit false
set_option linter.unusedVariables false
set_option linter.unusedSimpArgs false
namespace Go.Proofs
open Go.XL
theorem fn56 : Try.prog.funcs[56]? = some Try.f56 := by kernel_rfl
theorem ext56 : Extern.find Try.f56 = some Extern.BytealgCompare.compare := by kernel_rfl
def LstV (l : List Val) (H : Hp) (v : Value) : Prop := ∃ a c, v = .agg ⟨[.int .i64 3, .int .i64 0, .string (bsOf []), .slice a l.length c]⟩ ∧ SlR valR H a c l
theorem LstV_mono (l : List Val) : ∀ v H H', Le H H' → LstV l H v → LstV l H' v := fun _ _ _ hle ⟨a, c, h1, h2⟩ => ⟨a, c, h1, h2.mono hle⟩
theorem TxtU_mono (s : Card) : ∀ v H H', Le H H' → TxtU s H v → TxtU s H' v := fun _ _ _ hle ⟨a, c, h1, h2⟩ => ⟨a, c, h1, h2.mono hle⟩
theorem sl_commit {H : Hp} {b : Nat} {r e j0 : Int} {n : Nat} {D : List UInt8} {a : Option Addr} {c : Nat} (h : PtH H b 0 (cardV r e j0 n D a c)) (hD : D.length = 32) : SlR u8R H (some ⟨b, 4, none⟩) 32 D := by
  refine ⟨by omega, by simp, fun i x hx => ⟨b, 4, [.int .u8 ((x.toNat : Nat) : Int)], rfl, ?_, rfl⟩⟩
  obtain ⟨cc, T, fz, hb, hc⟩ := h
  refine ⟨cc, T, fz, hb, fun j u hj => ?_⟩
  have hi : i < 32 := by have := (List.getElem?_eq_some_iff.1 hx).1; omega
  cases j with
  | succ j => simp at hj
  | zero =>
    simp at hj; subst hj
    have hg : D.getD i 0 = x := by rw [List.getD_eq_getElem?_getD, hx]; rfl
    have key : ∀ i, i < 32 → (cardV r e j0 n D a c)[4 + i]? = some (u8c D i) := by
      intro i hi
      have : ∀ k : Fin 32, (cardV r e j0 n D a c)[4 + k.val]? = some (u8c D k.val) := by
        intro ⟨k, hk⟩
        rcases k with _ | _ | _ | _ | _ | _ | _ | _ | _ | _ | _ | _ | _ | _ | _ | _ | _ | _ | _ | _ | _ | _ | _ | _ | _ | _ | _ | _ | _ | _ | _ | _ | k
        all_goals first | rfl | omega
      exact this ⟨i, hi⟩
    have := hc (4 + i) (u8c D i) (key i hi)
    simp only [u8R, Nat.mul_one, Nat.add_zero, Nat.zero_add] at this ⊢
    rw [this]
    simp only [u8c, u8n, hg]
end Go.Proofs

/- The walks of the functions of boxes: what each of them computes, at any input. -/
set_option maxRecDepth 100000
set_option autoImplicit false
set_option linter.unusedVariables false
set_option linter.unusedSimpArgs false
namespace Go.Proofs
open Go.XL

theorem by_87 : Nat.ble (Try.prog.bytesOf 87) 4096 = true := by kernel_rfl
theorem ze_3 : zeroC Try.prog 3 = some [.int .i64 0] := by kernel_rfl

theorem list_own (a : Option Addr) (c : Nat) (l : List Int) (H : Hp) (hs : SlR (intR .i64) H a c l) (hl : l.length ≤ 100000) : FnC Try.prog 57 #[.slice a l.length c] H [] (RetR (fun v H2 own => ∃ p a2 c2, own = [p] ∧ v = .slice a2 (l.map intV).length c2 ∧ XL.Acc valR 87 H2 p a2 c2 (l.map intV))) := by
 refine FnC.intro (args := [.slice a l.length c]) Try.func57 rfl rfl Try.ntmps57 rfl rfl rfl fun G rest => ?_
 refine XC.seq ?_; refine XC.region ?_; refine XO.assign rfl rfl ?_; refine XO.nil ?_; refine XC.seq2 ?_; refine XC.seq ?_; refine XC.seq ?_; refine XC.region ?_; refine XO.move rfl rfl ?_; refine XO.lenS (ts := #[]) rfl Try.underlying23 rfl ?_; refine XO.move rfl rfl ?_; refine XO.nil ?_; refine XC.seq2 ?_; refine XC.block ?_; refine XC.keep [2, 7, 5, 6] rfl ?_; refine XC.open0 0 ?_; refine XC.loop (base := [(5, _), (6, _)]) (fun ζ : Nat × ((Nat × SObj) × Option Addr × Nat) => [(2, .slice ζ.2.2.1 ((l.take (ζ.1)).map intV).length ζ.2.2.2), (7, .int .i64 (ζ.1 : Nat))]) (fun ζ Hl own => ζ.1 ≤ l.length ∧ ζ.2.1 :: rest = own ∧ Acc valR 87 Hl ζ.2.1 ζ.2.2.1 ζ.2.2.2 ((l.take (ζ.1)).map intV)) (fun ζ => l.length - ζ.1) (0, ((0, .nothing), none, 0)) (prov_cons (rfl) (prov_cons (rfl) (prov_cons (rfl) (prov_cons (rfl) prov_nil)))) (by repeat (first | exact List.Sublist.refl _ | apply List.Sublist.cons_cons | apply List.Sublist.cons)) ⟨Nat.zero_le _, rfl, Acc.nil _ _ _ _⟩ ?_; rintro ⟨k, ⟨pw, aw, cw⟩⟩ Hl0 _ hle0 ⟨hkk, rfl, haccw⟩; replace hs := hs.mono hle0
 try dsimp only at hkk haccw ⊢
 refine XC.seq ?_; refine XC.region ?_; refine XO.lss rfl rfl rfl ?_; refine XO.nil ?_; refine XC.seq2 ?_; refine XC.seq ?_; refine XC.cond rfl (fun c0_1 => ?_) (fun c0_1 => ?_)
 ·refine XC.skip ?_; refine XC.seq2 ?_; refine XC.seq ?_; refine XC.block ?_; refine XC.seq ?_; refine XC.region ?_; refine XO.indexN rfl hs rfl Try.underlying23 ty_3 (by omega) rfl ?_; rintro eb9 eo9 _ x9 hx9 rfl hp9; refine XO.loadH rfl (by assumption) ty_3 rfl rfl rfl ?_; refine XO.assign rfl rfl ?_; refine XO.nil ?_; refine XC.seq2 ?_; refine XC.region ?_; refine XO.move rfl rfl ?_; refine XO.move rfl rfl ?_; refine XO.build bk_87 bf_87 ze_87 rfl rfl rfl ?_; refine XO.buildSlice rfl Try.underlying85 ty_87 ze_87 rfl rfl rfl (fun b14 => ?_); refine XO.publish 0 rfl rfl rfl (fun HP14 oP14 hleP14 hbP14 hoP14 => ?_); replace hs := hs.mono hleP14; replace haccw := haccw.mono hleP14; replace hp9 := hp9.mono hleP14; replace hle0 := hle0.trans hleP14
  have hsl14 := SlR.lit (ρ := valR) (l := [intV x9]) hbP14 hoP14 (RowsR.one1 (valR_iff.2 ⟨none, 0, rfl, SlR.nil0 _ _⟩))
  refine XO.appendA 0 rfl rfl haccw rfl rfl hsl14 rfl Try.underlying85 ty_87 ze_87 rfl by_87 (by simp; omega) rfl (fun p15 a15 c15 hacc15 => ?_); refine XO.assign rfl rfl ?_; refine XO.nil ?_; refine blockN ?_; refine XC.seq2 ?_; refine XC.region ?_; refine XO.add rfl rfl (wrap_i64 (by omega) (by omega)) rfl ?_; refine XO.move rfl rfl ?_; refine XO.nil ?_; refine loop_next ((k + 1, (p15, a15, c15))) (by show l.length - (k + 1) < l.length - k; omega) (prov_cons (by first | rfl | (rw [map_take_snoc hx9]; rfl)) (prov_cons (rfl) (prov_cons (rfl) (prov_cons (rfl) prov_nil)))) (⟨by show k + 1 ≤ l.length; omega, rfl, by first | (exact hacc15) | (rw [map_take_snoc hx9]; exact hacc15)⟩) (by repeat (first | exact List.Sublist.refl _ | apply List.Sublist.cons_cons | apply List.Sublist.cons)) (hle0)
 ·obtain rfl : k = l.length := by omega
  rw [List.take_length] at haccw ⊢
  refine XC.exit ?_; refine seqX_exit ?_; refine loopX_exit ?_; refine blockHit rfl ?_; refine XC.seq2 ?_; refine XC.seq ?_; refine XC.region ?_; refine XO.move rfl rfl ?_; refine XO.assign rfl rfl ?_; refine XO.nil ?_; refine XC.seq2 ?_; refine XC.ret ?_; refine ⟨rfl, _, [pw], rfl, (by repeat (first | exact List.Sublist.refl _ | apply List.Sublist.cons_cons | apply List.Sublist.cons)), RetR.mk ?_⟩
  exact ⟨_, _, _, rfl, rfl, haccw⟩

theorem list_pub (a : Option Addr) (c : Nat) (l : List Int) (H : Hp) (hs : SlR (intR .i64) H a c l) (hl : l.length ≤ 100000) : FnC Try.prog 57 #[.slice a l.length c] H [] (RetR (fun v H2 _ => ∃ a2 c2, v = .slice a2 (l.map intV).length c2 ∧ SlR valR H2 a2 c2 (l.map intV))) := by
 refine FnC.intro (args := [.slice a l.length c]) Try.func57 rfl rfl Try.ntmps57 rfl rfl rfl fun G rest => ?_
 refine XC.seq ?_; refine XC.region ?_; refine XO.assign rfl rfl ?_; refine XO.nil ?_; refine XC.seq2 ?_; refine XC.seq ?_; refine XC.seq ?_; refine XC.region ?_; refine XO.move rfl rfl ?_; refine XO.lenS (ts := #[]) rfl Try.underlying23 rfl ?_; refine XO.move rfl rfl ?_; refine XO.nil ?_; refine XC.seq2 ?_; refine XC.block ?_; refine XC.keep [2, 7, 5, 6] rfl ?_; refine XC.open0 0 ?_; refine XC.loop (base := [(5, _), (6, _)]) (fun ζ : Nat × ((Nat × SObj) × Option Addr × Nat) => [(2, .slice ζ.2.2.1 ((l.take (ζ.1)).map intV).length ζ.2.2.2), (7, .int .i64 (ζ.1 : Nat))]) (fun ζ Hl own => ζ.1 ≤ l.length ∧ ζ.2.1 :: rest = own ∧ Acc valR 87 Hl ζ.2.1 ζ.2.2.1 ζ.2.2.2 ((l.take (ζ.1)).map intV)) (fun ζ => l.length - ζ.1) (0, ((0, .nothing), none, 0)) (prov_cons (rfl) (prov_cons (rfl) (prov_cons (rfl) (prov_cons (rfl) prov_nil)))) (by repeat (first | exact List.Sublist.refl _ | apply List.Sublist.cons_cons | apply List.Sublist.cons)) ⟨Nat.zero_le _, rfl, Acc.nil _ _ _ _⟩ ?_; rintro ⟨k, ⟨pw, aw, cw⟩⟩ Hl0 _ hle0 ⟨hkk, rfl, haccw⟩; replace hs := hs.mono hle0
 try dsimp only at hkk haccw ⊢
 refine XC.seq ?_; refine XC.region ?_; refine XO.lss rfl rfl rfl ?_; refine XO.nil ?_; refine XC.seq2 ?_; refine XC.seq ?_; refine XC.cond rfl (fun c0_1 => ?_) (fun c0_1 => ?_)
 ·refine XC.skip ?_; refine XC.seq2 ?_; refine XC.seq ?_; refine XC.block ?_; refine XC.seq ?_; refine XC.region ?_; refine XO.indexN rfl hs rfl Try.underlying23 ty_3 (by omega) rfl ?_; rintro eb9 eo9 _ x9 hx9 rfl hp9; refine XO.loadH rfl (by assumption) ty_3 rfl rfl rfl ?_; refine XO.assign rfl rfl ?_; refine XO.nil ?_; refine XC.seq2 ?_; refine XC.region ?_; refine XO.move rfl rfl ?_; refine XO.move rfl rfl ?_; refine XO.build bk_87 bf_87 ze_87 rfl rfl rfl ?_; refine XO.buildSlice rfl Try.underlying85 ty_87 ze_87 rfl rfl rfl (fun b14 => ?_); refine XO.publish 0 rfl rfl rfl (fun HP14 oP14 hleP14 hbP14 hoP14 => ?_); replace hs := hs.mono hleP14; replace haccw := haccw.mono hleP14; replace hp9 := hp9.mono hleP14; replace hle0 := hle0.trans hleP14
  have hsl14 := SlR.lit (ρ := valR) (l := [intV x9]) hbP14 hoP14 (RowsR.one1 (valR_iff.2 ⟨none, 0, rfl, SlR.nil0 _ _⟩))
  refine XO.appendA 0 rfl rfl haccw rfl rfl hsl14 rfl Try.underlying85 ty_87 ze_87 rfl by_87 (by simp; omega) rfl (fun p15 a15 c15 hacc15 => ?_); refine XO.assign rfl rfl ?_; refine XO.nil ?_; refine blockN ?_; refine XC.seq2 ?_; refine XC.region ?_; refine XO.add rfl rfl (wrap_i64 (by omega) (by omega)) rfl ?_; refine XO.move rfl rfl ?_; refine XO.nil ?_; refine loop_next ((k + 1, (p15, a15, c15))) (by show l.length - (k + 1) < l.length - k; omega) (prov_cons (by first | rfl | (rw [map_take_snoc hx9]; rfl)) (prov_cons (rfl) (prov_cons (rfl) (prov_cons (rfl) prov_nil)))) (⟨by show k + 1 ≤ l.length; omega, rfl, by first | (exact hacc15) | (rw [map_take_snoc hx9]; exact hacc15)⟩) (by repeat (first | exact List.Sublist.refl _ | apply List.Sublist.cons_cons | apply List.Sublist.cons)) (hle0)
 ·obtain rfl : k = l.length := by omega
  rw [List.take_length] at haccw ⊢
  refine XC.exit ?_; refine seqX_exit ?_; refine loopX_exit ?_; refine blockHit rfl ?_; refine XC.seq2 ?_; refine XC.seq ?_; refine XC.region ?_; refine XO.move rfl rfl ?_; refine XO.assign rfl rfl ?_; refine XO.nil ?_; refine XC.seq2 ?_; refine XC.publishA 0 rfl haccw rfl (fun HQ4 hleQ4 hsQ4 => ?_); replace hs := hs.mono hleQ4; replace hle0 := hle0.trans hleQ4; refine XC.ret ?_; refine ⟨rfl, _, [], rfl, (by repeat (first | exact List.Sublist.refl _ | apply List.Sublist.cons)), RetR.mk ?_⟩
  exact ⟨_, _, rfl, by assumption⟩

theorem text_own (s : Card) (a : Option Addr) (c : Nat) (H : Hp) (hs : SlR (intR .i64) H a c s.C) (hD : s.D.length = 32) (hok : okC s) : FnC Try.prog 48 #[.agg ⟨cardV s.R s.E s.J s.C.length s.D a c⟩] H [] (RetR (fun v H2 _ => TxtU s H2 v)) := by
 refine FnC.intro (args := [.agg ⟨cardV s.R s.E s.J s.C.length s.D a c⟩]) Try.func48 rfl rfl Try.ntmps48 rfl rfl rfl fun G rest => ?_
 have hcl := (okC_rng hok).2.2.2.1.2
 have hrg := okC_rng hok
 refine XC.seq ?_; refine XC.region ?_; refine XO.box rfl rfl rfl (fun b1 => ?_); refine XO.assign rfl rfl ?_; refine XO.nil ?_; refine XC.seq2 ?_; refine XC.seq ?_; refine XC.region ?_; refine XO.publish 0 rfl rfl rfl (fun HK1 oK1 hleK1 hbK1 hoK1 => ?_)
 have hpK1 := PtH.of_is hbK1 hoK1
 replace hs := hs.mono hleK1
 have hsD := sl_commit hpK1 hD
 refine XO.assign rfl rfl ?_; refine XO.nil ?_; refine XC.seq2 ?_; refine XC.seq ?_; refine XC.keep [1, 3] rfl ?_
 apply XC.drawM (fun _ => True) trivial [8] (by decide) [(19, 8)] (ownF valR 87 [intV s.R, intV s.E, intV s.J]) (fun _ _ p _ => p.2 = .nothing) (ownF_mono _ _ _) (fun _ _ _ _ _ _ h => h) 20 [eqF _, eqF _, eqF _, eqF _, eqF _, eqF _, eqF _, slF (intR .i64) [s.R, s.E, s.J], anyF, eqF _, eqF _, eqF _, slG valR (s.C.map intV), fun v H => LstV (s.C.map intV) H v, eqF _, eqF _, eqF _, eqF _, slF valR [Val.mk 3 0 [] (s.C.map intV), Val.mk 2 0 s.D []], slG valR ([intV s.R, intV s.E, intV s.J] ++ [Val.mk 3 0 [] (s.C.map intV), Val.mk 2 0 s.D []])] follows (by kernel_rfl) ⟨eqF_mono _, eqF_mono _, eqF_mono _, eqF_mono _, eqF_mono _, eqF_mono _, eqF_mono _, slF_mono _ _, anyF_mono, eqF_mono _, eqF_mono _, eqF_mono _, slG_mono _ _, LstV_mono _, eqF_mono _, eqF_mono _, eqF_mono _, eqF_mono _, slF_mono _ _, slG_mono _ _, trivial⟩ (by decide) (by kernel_rfl) ?steps1 ?tail1
 case steps1 =>
  refine stepsM_cons rfl rfl ?_ ?_
  ·intro X ext HD hleD _
   replace hs := hs.mono hleD; replace hpK1 := hpK1.mono hleD; replace hsD := hsD.mono hleD; refine withP_nil rfl ?_; refine XO.move rfl rfl ?_; refine XO.nil ?_; exact stepQN_ok rfl trivial (rfl)
  refine stepsM_cons rfl rfl ?_ ?_
  ·intro X ext HD hleD _
   replace hs := hs.mono hleD; replace hpK1 := hpK1.mono hleD; replace hsD := hsD.mono hleD; refine withP_nil rfl ?_; refine XO.fieldAddr rfl fa_27_0 rfl ?_; refine XO.nil ?_; exact stepQN_ok rfl trivial (rfl)
  refine stepsM_cons rfl rfl ?_ ?_
  ·intro X ext HD hleD _
   replace hs := hs.mono hleD; replace hpK1 := hpK1.mono hleD; replace hsD := hsD.mono hleD; refine withP_cons rfl rfl ?_; rintro _ rfl; refine withP_nil rfl ?_; refine XO.loadHF rfl (by assumption) ty_3 rfl rfl rfl ?_; refine XO.nil ?_; exact stepQN_ok rfl trivial (rfl)
  refine stepsM_cons rfl rfl ?_ ?_
  ·intro X ext HD hleD _
   replace hs := hs.mono hleD; replace hpK1 := hpK1.mono hleD; replace hsD := hsD.mono hleD; refine withP_nil rfl ?_; refine XO.fieldAddr rfl fa_27_1 rfl ?_; refine XO.nil ?_; exact stepQN_ok rfl trivial (rfl)
  refine stepsM_cons rfl rfl ?_ ?_
  ·intro X ext HD hleD _
   replace hs := hs.mono hleD; replace hpK1 := hpK1.mono hleD; replace hsD := hsD.mono hleD; refine withP_cons rfl rfl ?_; rintro _ rfl; refine withP_nil rfl ?_; refine XO.loadHF rfl (by assumption) ty_3 rfl rfl rfl ?_; refine XO.nil ?_; exact stepQN_ok rfl trivial (rfl)
  refine stepsM_cons rfl rfl ?_ ?_
  ·intro X ext HD hleD _
   replace hs := hs.mono hleD; replace hpK1 := hpK1.mono hleD; replace hsD := hsD.mono hleD; refine withP_nil rfl ?_; refine XO.fieldAddr rfl fa_27_2 rfl ?_; refine XO.nil ?_; exact stepQN_ok rfl trivial (rfl)
  refine stepsM_cons rfl rfl ?_ ?_
  ·intro X ext HD hleD _
   replace hs := hs.mono hleD; replace hpK1 := hpK1.mono hleD; replace hsD := hsD.mono hleD; refine withP_cons rfl rfl ?_; rintro _ rfl; refine withP_nil rfl ?_; refine XO.loadHF rfl (by assumption) ty_3 rfl rfl rfl ?_; refine XO.nil ?_; exact stepQN_ok rfl trivial (rfl)
  refine stepsM_cons rfl rfl ?_ ?_
  ·intro X ext HD hleD _
   replace hs := hs.mono hleD; replace hpK1 := hpK1.mono hleD; replace hsD := hsD.mono hleD; refine withP_cons rfl rfl ?_; rintro _ rfl; refine withP_cons rfl rfl ?_; rintro _ rfl; refine withP_cons rfl rfl ?_; rintro _ rfl; refine withP_nil rfl ?_; refine XO.buildSlice rfl Try.underlying23 ty_3 ze_3 rfl rfl rfl (fun b14 => ?_); refine XO.publish 0 rfl rfl rfl (fun HP14 oP14 hleP14 hbP14 hoP14 => ?_)
   have hsl14 := SlR.lit (ρ := (intR .i64)) (l := [s.R, s.E, s.J]) hbP14 hoP14 (RowsR.cons1 (cs := [_]) rfl (RowsR.cons1 (cs := [_]) rfl (RowsR.one1 rfl)))
   replace hs := hs.mono hleP14; replace hpK1 := hpK1.mono hleP14; replace hsD := hsD.mono hleP14; refine XO.nil ?_
   exact stepQN_ok rfl trivial (⟨_, rfl, hsl14⟩)
  refine stepsM_cons rfl rfl ?_ ?_
  ·intro X ext HD hleD _
   replace hs := hs.mono hleD; replace hpK1 := hpK1.mono hleD; replace hsD := hsD.mono hleD; refine withP_cons rfl rfl ?_; rintro _ rfl; refine withP_cons rfl rfl ?_; rintro _ ⟨bs14, rfl, hsl14⟩; refine withP_nil rfl ?_; refine XO.callVal [] (ownF := []) rfl trivial rfl (FnV.of_fn (cap := []) (args := [_]) (list_own _ _ [s.R, s.E, s.J] _ hsl14 (show (3 : Nat) ≤ 100000 by decide))) rfl rfl ?_; rintro _ HN oN hleN ⟨pe, ae, ce, rfl, rfl, hacc⟩; replace hs := hs.mono hleN; replace hpK1 := hpK1.mono hleN; replace hsD := hsD.mono hleN; replace hsl14 := hsl14.mono hleN; refine XO.nil ?_
   exact stepQN_new rfl trivial trivial (⟨_, _, rfl, hacc⟩)
  refine stepsM_cons rfl rfl ?_ ?_
  ·intro X ext HD hleD _
   replace hs := hs.mono hleD; replace hpK1 := hpK1.mono hleD; replace hsD := hsD.mono hleD; refine withP_nil rfl ?_; refine XO.move rfl rfl ?_; refine XO.nil ?_; exact stepQN_ok rfl trivial (rfl)
  refine stepsM_cons rfl rfl ?_ ?_
  ·intro X ext HD hleD _
   replace hs := hs.mono hleD; replace hpK1 := hpK1.mono hleD; replace hsD := hsD.mono hleD; refine withP_nil rfl ?_; refine XO.fieldAddr rfl fa_27_3 rfl ?_; refine XO.nil ?_; exact stepQN_ok rfl trivial (rfl)
  refine stepsM_cons rfl rfl ?_ ?_
  ·intro X ext HD hleD _
   replace hs := hs.mono hleD; replace hpK1 := hpK1.mono hleD; replace hsD := hsD.mono hleD; refine withP_cons rfl rfl ?_; rintro _ rfl; refine withP_nil rfl ?_; refine XO.loadHF rfl (by assumption) ty_23 rfl rfl rfl ?_; refine XO.nil ?_; exact stepQN_ok rfl trivial (rfl)
  refine stepsM_cons rfl rfl ?_ ?_
  ·intro X ext HD hleD _
   replace hs := hs.mono hleD; replace hpK1 := hpK1.mono hleD; replace hsD := hsD.mono hleD; refine withP_cons rfl rfl ?_; rintro _ rfl; refine withP_cons rfl rfl ?_; rintro _ rfl; refine withP_nil rfl ?_; refine XO.callVH rfl trivial rfl (FnV.of_fn (cap := []) (args := [_]) (list_pub _ _ s.C _ hs (by omega))) rfl ?_; rintro _ HN oN hleN ⟨aN, cN, rfl, hN⟩; replace hs := hs.mono hleN; replace hpK1 := hpK1.mono hleN; replace hsD := hsD.mono hleN; refine XO.nil ?_
   exact stepQN_ok rfl trivial (⟨_, _, rfl, hN⟩)
  refine stepsM_cons rfl rfl ?_ ?_
  ·intro X ext HD hleD _
   replace hs := hs.mono hleD; replace hpK1 := hpK1.mono hleD; replace hsD := hsD.mono hleD; refine withP_cons rfl rfl ?_; rintro _ ⟨a19, c19, rfl, hsl19⟩; refine withP_nil rfl ?_; refine XO.build bk_87 bf_87 ze_87 rfl rfl rfl ?_; refine XO.nil ?_
   exact stepQN_ok rfl trivial (⟨_, _, rfl, hsl19⟩)
  refine stepsM_cons rfl rfl ?_ ?_
  ·intro X ext HD hleD _
   replace hs := hs.mono hleD; replace hpK1 := hpK1.mono hleD; replace hsD := hsD.mono hleD; refine withP_nil rfl ?_; refine XO.fieldAddr rfl fa_27_4 rfl ?_; refine XO.nil ?_; exact stepQN_ok rfl trivial (rfl)
  refine stepsM_cons rfl rfl ?_ ?_
  ·intro X ext HD hleD _
   replace hs := hs.mono hleD; replace hpK1 := hpK1.mono hleD; replace hsD := hsD.mono hleD; refine withP_cons rfl rfl ?_; rintro _ rfl; refine withP_nil rfl ?_; refine XO.sliceArr rfl Try.underlying25 ty_5 rfl ?_; refine XO.nil ?_; exact stepQN_ok rfl trivial (rfl)
  refine stepsM_cons rfl rfl ?_ ?_
  ·intro X ext HD hleD _
   replace hs := hs.mono hleD; replace hpK1 := hpK1.mono hleD; replace hsD := hsD.mono hleD; refine withP_cons rfl rfl ?_; rintro _ rfl; refine withP_nil rfl ?_; refine XO.b2s (l := s.D) (by rw [hD]; rfl) hsD Try.underlying44 Try.underlying5 Try.underlying9 rfl ?_; refine XO.nil ?_; exact stepQN_ok rfl trivial (rfl)
  refine stepsM_cons rfl rfl ?_ ?_
  ·intro X ext HD hleD _
   replace hs := hs.mono hleD; replace hpK1 := hpK1.mono hleD; replace hsD := hsD.mono hleD; refine withP_cons rfl rfl ?_; rintro _ rfl; refine withP_nil rfl ?_; refine XO.build bk_87 bf_87 ze_87 rfl rfl rfl ?_; refine XO.nil ?_; exact stepQN_ok rfl trivial (rfl)
  refine stepsM_cons rfl rfl ?_ ?_
  ·intro X ext HD hleD _
   replace hs := hs.mono hleD; replace hpK1 := hpK1.mono hleD; replace hsD := hsD.mono hleD; refine withP_cons rfl rfl ?_; rintro _ ⟨a20, c20, rfl, h20⟩; refine withP_cons rfl rfl ?_; rintro _ rfl; refine withP_nil rfl ?_; refine XO.buildSlice rfl Try.underlying85 ty_87 ze_87 rfl rfl rfl (fun b25 => ?_); refine XO.publish 0 rfl rfl rfl (fun HP25 oP25 hleP25 hbP25 hoP25 => ?_); replace hs := hs.mono hleP25; replace hpK1 := hpK1.mono hleP25; replace hsD := hsD.mono hleP25
   have hsl25 := SlR.lit (ρ := valR) (l := [Val.mk 3 0 [] (s.C.map intV), Val.mk 2 0 s.D []]) hbP25 hoP25 (RowsR.cons1 (cs := [_, _, _, _]) (valR_iff.2 ⟨_, _, rfl, h20.mono hleP25⟩) (RowsR.one1 (valR_iff.2 ⟨none, 0, rfl, SlR.nil0 _ _⟩)))
   refine XO.nil ?_
   exact stepQN_ok rfl trivial (⟨_, rfl, hsl25⟩)
  refine stepsM_mod rfl rfl ?_ ?_
  ·intro X ext p HD hleD _
   replace hs := hs.mono hleD; replace hpK1 := hpK1.mono hleD; replace hsD := hsD.mono hleD; refine withP_cons rfl rfl ?_; rintro _ _; refine withP_cons rfl rfl ?_; rintro _ ⟨bs25, rfl, hsl25⟩; refine withP_nil rfl ?_
   intro hfo
   obtain ⟨ab, cb, rfl, haccb⟩ := hfo _ _ rfl rfl; refine XO.appendA 0 rfl rfl haccb rfl rfl hsl25 rfl Try.underlying85 ty_87 ze_87 rfl by_87 (show (5 : Nat) ≤ 1073741824 by decide) rfl (fun pc ac cc haccc => ?_); refine XO.publishA 0 rfl haccc rfl (fun HQ hleQ hsQ => ?_); refine XO.open0 (σ := []) (fun b0 => ?_); refine XO.nil ?_
   exact stepQM_ok trivial (⟨_, _, rfl, hsQ⟩) (fun u t h1 h2 => rfl)
  exact stepsM_end rfl
 case tail1 =>
  intro HD hleD _
  replace hs := hs.mono hleD; replace hpK1 := hpK1.mono hleD; replace hsD := hsD.mono hleD; refine withP_cons rfl rfl ?_; rintro _ rfl; refine withP_cons rfl rfl ?_; rintro _ rfl; refine withP_cons rfl rfl ?_; rintro _ rfl; refine withP_cons rfl rfl ?_; rintro _ rfl; refine withP_cons rfl rfl ?_; rintro _ rfl; refine withP_cons rfl rfl ?_; rintro _ rfl; refine withP_cons rfl rfl ?_; rintro _ rfl; refine withP_cons rfl rfl ?_; rintro _ ⟨bs14, rfl, hsl14⟩; refine withP_cons rfl rfl ?_; rintro _ _; refine withP_cons rfl rfl ?_; rintro _ rfl; refine withP_cons rfl rfl ?_; rintro _ rfl; refine withP_cons rfl rfl ?_; rintro _ rfl; refine withP_cons rfl rfl ?_; rintro _ ⟨a19, c19, rfl, hsl19⟩; refine withP_cons rfl rfl ?_; rintro _ ⟨a20, c20, rfl, h20⟩; refine withP_cons rfl rfl ?_; rintro _ rfl; refine withP_cons rfl rfl ?_; rintro _ rfl; refine withP_cons rfl rfl ?_; rintro _ rfl; refine withP_cons rfl rfl ?_; rintro _ rfl; refine withP_cons rfl rfl ?_; rintro _ ⟨bs25, rfl, hsl25⟩; refine withP_cons rfl rfl ?_; rintro _ ⟨a26, c26, rfl, hsl26⟩; refine withP_nil rfl ?_; refine withEnts_cons ?_
  intro pe hpe
  refine withEnts_nil ?_; refine XO.assign rfl rfl ?_; refine XO.nil ?_; refine XC.seq2 ?_; refine XC.seq ?_; refine XC.region ?_; refine XO.move rfl rfl ?_; refine XO.build bk_87 bf_87 ze_87 rfl rfl rfl ?_
  have hcall := enc_fn 3 0 [] ([intV s.R, intV s.E, intV s.J] ++ [Val.mk 3 0 [] (s.C.map intV), Val.mk 2 0 s.D []]) _ _ _ (val_wsz hcl hD) (val_fit hok hD) hsl26
  refine XO.callH rfl hcall rfl ?_; rintro _ HN30 hleN30 ⟨aN30, cN30, hN30, rfl⟩; replace hs := hs.mono hleN30; replace hpK1 := hpK1.mono hleN30; replace hsD := hsD.mono hleN30; replace hsl14 := hsl14.mono hleN30; replace hsl19 := hsl19.mono hleN30; replace hsl25 := hsl25.mono hleN30; replace hsl26 := hsl26.mono hleN30; refine XO.move rfl rfl ?_; refine XO.extract rfl rfl rfl ?_; refine XO.extract rfl rfl rfl ?_; refine XO.assign rfl rfl ?_; refine XO.assign rfl rfl ?_; refine XO.nil ?_; refine XC.seq2 ?_; refine XC.seq ?_; refine XC.region ?_; refine XO.move rfl rfl ?_; refine XO.assign rfl rfl ?_; refine XO.nil ?_; refine XC.seq2 ?_; refine XC.ret ?_; refine ⟨rfl, _, [], rfl, (by repeat (first | exact List.Sublist.refl _ | apply List.Sublist.cons)), RetR.mk ?_⟩
  exact ⟨_, _, rfl, hN30⟩

theorem bcmp_fn (a b : Option Addr) (c d : Nat) (l m : List UInt8) (H : Hp) (hs : SlR u8R H a c l) (ht : SlR u8R H b d m) : FnC Try.prog 47 #[.slice a l.length c, .slice b m.length d] H [] (RetR (fun v _ _ => v = .int .i64 (cmpB l m))) := by
 refine FnC.intro (args := [.slice a l.length c, .slice b m.length d]) Try.func47 rfl rfl Try.ntmps47 rfl rfl rfl fun G rest => ?_
 refine XC.seq ?_; refine XC.region ?_; refine XO.assign rfl rfl ?_; refine XO.nil ?_; refine XC.seq2 ?_; refine XC.seq ?_; refine XC.region ?_; refine XO.move rfl rfl ?_; refine XO.move rfl rfl ?_; refine XO.cmpBytes rfl hs rfl ht fn56 (by kernel_rfl) (by kernel_rfl) (by kernel_rfl) ext56 rfl ?_; refine XO.assign rfl rfl ?_; refine XO.nil ?_; refine XC.seq2 ?_; refine XC.ret ?_; refine ⟨rfl, _, [], rfl, (by repeat (first | exact List.Sublist.refl _ | apply List.Sublist.cons)), RetR.mk ?_⟩
 rfl

theorem order_fn (s t : Card) (a b : Option Addr) (c d : Nat) (H : Hp) (hs : SlR (intR .i64) H a c s.C) (ht : SlR (intR .i64) H b d t.C) (hD : s.D.length = 32) (hE : t.D.length = 32) (hok : okC s) (hok2 : okC t) : FnC Try.prog 31 #[.agg ⟨cardV s.R s.E s.J s.C.length s.D a c⟩, .agg ⟨cardV t.R t.E t.J t.C.length t.D b d⟩] H [] (RetR (fun v _ _ => v = .int .i64 (ordC s t))) := by
 refine FnC.intro (args := [.agg ⟨cardV s.R s.E s.J s.C.length s.D a c⟩, .agg ⟨cardV t.R t.E t.J t.C.length t.D b d⟩]) Try.func31 rfl rfl Try.ntmps31 rfl rfl rfl fun G rest => ?_
 refine XC.seq ?_; refine XC.region ?_; refine XO.box rfl rfl rfl (fun b2 => ?_); refine XO.box rfl rfl rfl (fun b3 => ?_); refine XO.assign rfl rfl ?_; refine XO.nil ?_; refine XC.seq2 ?_; refine XC.seq ?_; refine XC.keep [2, 3] rfl ?_
 apply XC.drawM (fun _ => True) trivial [4, 5] (by decide) [(6, 4)] (fun _ v p _ => v = .pointer (some ⟨p.1, 0, none⟩) ∧ p.2 = .cells 55 [.int .i64 0, .int .i64 0, .int .i64 0]) (fun _ v p _ => v = .pointer (some ⟨p.1, 0, none⟩) ∧ p.2 = .cells 55 [.int .i64 s.R, .int .i64 s.E, .int .i64 s.J]) (fun _ _ _ _ _ _ h => h) (fun _ _ _ _ _ _ h => h) 7 [eqF _, eqF _, eqF _, eqF _, anyF, anyF, anyF] follows (by kernel_rfl) ⟨eqF_mono _, eqF_mono _, eqF_mono _, eqF_mono _, anyF_mono, anyF_mono, anyF_mono, trivial⟩ (by decide) (by kernel_rfl) ?steps1 ?tail1
 case steps1 =>
  refine stepsM_cons rfl rfl ?_ ?_
  ·intro X ext HD hleD _
   replace hs := hs.mono hleD; replace ht := ht.mono hleD; refine withP_nil rfl ?_; refine XO.loadO 1 rfl rfl ty_27 rfl rfl rfl ?_; refine XO.nil ?_; exact stepQN_ok rfl trivial (rfl)
  refine stepsM_cons rfl rfl ?_ ?_
  ·intro X ext HD hleD _
   replace hs := hs.mono hleD; replace ht := ht.mono hleD; refine withP_cons rfl rfl ?_; rintro _ rfl; refine withP_nil rfl ?_; refine XO.callV rfl (at_fn s _ _ _ hs hD) rfl ?_; refine XO.nil ?_; exact stepQN_ok rfl trivial (rfl)
  refine stepsM_cons rfl rfl ?_ ?_
  ·intro X ext HD hleD _
   replace hs := hs.mono hleD; replace ht := ht.mono hleD; refine withP_nil rfl ?_; refine XO.loadO 0 rfl rfl ty_27 rfl rfl rfl ?_; refine XO.nil ?_; exact stepQN_ok rfl trivial (rfl)
  refine stepsM_cons rfl rfl ?_ ?_
  ·intro X ext HD hleD _
   replace hs := hs.mono hleD; replace ht := ht.mono hleD; refine withP_cons rfl rfl ?_; rintro _ rfl; refine withP_nil rfl ?_; refine XO.callV rfl (at_fn t _ _ _ ht hE) rfl ?_; refine XO.nil ?_; exact stepQN_ok rfl trivial (rfl)
  refine stepsM_cons rfl rfl ?_ ?_
  ·intro X ext HD hleD _
   replace hs := hs.mono hleD; replace ht := ht.mono hleD; refine withP_nil rfl ?_; refine XO.alloc ze_55 rfl (fun b5 => ?_); refine XO.nil ?_
   exact stepQN_new rfl trivial trivial (⟨rfl, rfl⟩)
  refine stepsM_cons rfl rfl ?_ ?_
  ·intro X ext HD hleD _
   replace hs := hs.mono hleD; replace ht := ht.mono hleD; refine withP_nil rfl ?_; refine XO.alloc ze_55 rfl (fun b6 => ?_); refine XO.nil ?_
   exact stepQN_new rfl trivial trivial (⟨rfl, rfl⟩)
  refine stepsM_mod rfl rfl ?_ ?_
  ·intro X ext p HD hleD _
   replace hs := hs.mono hleD; replace ht := ht.mono hleD; refine withP_cons rfl rfl ?_; rintro _ _; refine withP_cons rfl rfl ?_; rintro _ rfl; refine withP_nil rfl ?_
   intro hfo
   obtain ⟨be4, se4⟩ := p; obtain ⟨rfl, hse4⟩ := hfo _ _ rfl rfl
   simp only at hse4
   subst hse4
   refine XO.storeO 0 rfl rfl rfl rfl ty_55 rfl rfl rfl rfl rfl ?_; refine XO.nil ?_
   exact stepQM_ok trivial (trivial) (fun u t h1 h2 => by cases (show some _ = some t from h1); cases (show some (Value.pointer _) = some u from h2); exact ⟨rfl, rfl⟩)
  exact stepsM_end rfl
 case tail1 =>
  intro HD hleD _
  replace hs := hs.mono hleD; replace ht := ht.mono hleD; refine withP_cons rfl rfl ?_; rintro _ rfl; refine withP_cons rfl rfl ?_; rintro _ rfl; refine withP_cons rfl rfl ?_; rintro _ rfl; refine withP_cons rfl rfl ?_; rintro _ rfl; refine withP_cons rfl rfl ?_; rintro _ _; refine withP_cons rfl rfl ?_; rintro _ _; refine withP_skip rfl rfl ?_; refine withP_nil rfl ?_; refine withEnts_cons ?_
  intro pk4 hpk4
  obtain ⟨rfl, hpk4b⟩ := hpk4 _ ⟨_, rfl, rfl⟩; obtain ⟨be4, se4⟩ := pk4
  simp only at hpk4b
  subst hpk4b
  refine withEnts_cons ?_
  intro pk5 hpk5
  obtain ⟨rfl, hpk5b⟩ := hpk5 _ ⟨_, rfl, rfl⟩; obtain ⟨be5, se5⟩ := pk5
  simp only at hpk5b
  subst hpk5b
  refine withEnts_nil ?_; refine XO.storeO 1 rfl rfl rfl rfl ty_55 rfl rfl rfl rfl rfl ?_; refine XO.nil ?_; refine XC.seq2 ?_; refine XC.seq ?_; refine XC.keep [2, 3, 5, 6] rfl ?_; refine XC.publish 0 rfl rfl rfl (fun HK5 oK5 hleK5 hbK5 hoK5 => ?_)
  have hpK5 := PtH.of_is hbK5 hoK5
  replace hs := hs.mono hleK5; replace ht := ht.mono hleK5; refine XC.publish 0 rfl rfl rfl (fun HK6 oK6 hleK6 hbK6 hoK6 => ?_)
  have hpK6 := PtH.of_is hbK6 hoK6
  replace hs := hs.mono hleK6; replace ht := ht.mono hleK6; replace hpK5 := hpK5.mono hleK6
  have hP5 := SlR.of_pt (k := .i64) (l := plcL s) hpK5
  have hP6 := SlR.of_pt (k := .i64) (l := plcL t) hpK6
  apply XC.drawG (fun _ => True) trivial 10 [eqF _, eqF _, eqF _, eqF _, fun v H => TxtU s H v, eqF _, fun v H => TxtU t H v, eqF _, slF (intR .i64) [cmpL (plcL s) (plcL t), cmpB (textC s) (textC t)], eqF _] follows (by kernel_rfl) (by kernel_rfl) ⟨eqF_mono _, eqF_mono _, eqF_mono _, eqF_mono _, TxtU_mono _, eqF_mono _, TxtU_mono _, eqF_mono _, slF_mono _ _, eqF_mono _, trivial⟩ ?steps4 ?tail4
  case steps4 =>
   refine stepsD_cons rfl ?_ ?_
   ·intro X HD hleD _
    replace hs := hs.mono hleD; replace ht := ht.mono hleD; replace hpK5 := hpK5.mono hleD; replace hpK6 := hpK6.mono hleD; replace hP5 := hP5.mono hleD; replace hP6 := hP6.mono hleD; refine withPreds_nil rfl ?_; refine XO.sliceArr rfl Try.underlying55 ty_3 rfl ?_; refine XO.nil ?_
    exact stepQ_ok trivial (rfl)
   refine stepsD_cons rfl ?_ ?_
   ·intro X HD hleD _
    replace hs := hs.mono hleD; replace ht := ht.mono hleD; replace hpK5 := hpK5.mono hleD; replace hpK6 := hpK6.mono hleD; replace hP5 := hP5.mono hleD; replace hP6 := hP6.mono hleD; refine withPreds_nil rfl ?_; refine XO.sliceArr rfl Try.underlying55 ty_3 rfl ?_; refine XO.nil ?_
    exact stepQ_ok trivial (rfl)
   refine stepsD_cons rfl ?_ ?_
   ·intro X HD hleD _
    replace hs := hs.mono hleD; replace ht := ht.mono hleD; replace hpK5 := hpK5.mono hleD; replace hpK6 := hpK6.mono hleD; replace hP5 := hP5.mono hleD; replace hP6 := hP6.mono hleD; refine withPreds_cons rfl rfl ?_; rintro _ rfl; refine withPreds_cons rfl rfl ?_; rintro _ rfl; refine withPreds_nil rfl ?_; refine XO.callV rfl (compare_fn _ _ _ _ (plcL s) (plcL t) _ hP5 hP6 (show (3 : Nat) < 9223372036854775808 by decide) (show (3 : Nat) < 9223372036854775808 by decide)) rfl ?_; refine XO.nil ?_
    exact stepQ_ok trivial (rfl)
   refine stepsD_cons rfl ?_ ?_
   ·intro X HD hleD _
    replace hs := hs.mono hleD; replace ht := ht.mono hleD; replace hpK5 := hpK5.mono hleD; replace hpK6 := hpK6.mono hleD; replace hP5 := hP5.mono hleD; replace hP6 := hP6.mono hleD; refine withPreds_nil rfl ?_; refine XO.loadO 1 rfl rfl ty_27 rfl rfl rfl ?_; refine XO.nil ?_
    exact stepQ_ok trivial (rfl)
   refine stepsD_cons rfl ?_ ?_
   ·intro X HD hleD _
    replace hs := hs.mono hleD; replace ht := ht.mono hleD; replace hpK5 := hpK5.mono hleD; replace hpK6 := hpK6.mono hleD; replace hP5 := hP5.mono hleD; replace hP6 := hP6.mono hleD; refine withPreds_cons rfl rfl ?_; rintro _ rfl; refine withPreds_nil rfl ?_; refine XO.callH rfl (text_own s _ _ _ hs hD hok) rfl ?_; rintro _ HN15 hleN15 ⟨aN15, cN15, rfl, hN15⟩; replace hs := hs.mono hleN15; replace ht := ht.mono hleN15; replace hpK5 := hpK5.mono hleN15; replace hpK6 := hpK6.mono hleN15; replace hP5 := hP5.mono hleN15; replace hP6 := hP6.mono hleN15; refine XO.nil ?_
    exact stepQ_ok trivial (⟨_, _, rfl, hN15⟩)
   refine stepsD_cons rfl ?_ ?_
   ·intro X HD hleD _
    replace hs := hs.mono hleD; replace ht := ht.mono hleD; replace hpK5 := hpK5.mono hleD; replace hpK6 := hpK6.mono hleD; replace hP5 := hP5.mono hleD; replace hP6 := hP6.mono hleD; refine withPreds_nil rfl ?_; refine XO.loadO 0 rfl rfl ty_27 rfl rfl rfl ?_; refine XO.nil ?_
    exact stepQ_ok trivial (rfl)
   refine stepsD_cons rfl ?_ ?_
   ·intro X HD hleD _
    replace hs := hs.mono hleD; replace ht := ht.mono hleD; replace hpK5 := hpK5.mono hleD; replace hpK6 := hpK6.mono hleD; replace hP5 := hP5.mono hleD; replace hP6 := hP6.mono hleD; refine withPreds_cons rfl rfl ?_; rintro _ rfl; refine withPreds_nil rfl ?_; refine XO.callH rfl (text_own t _ _ _ ht hE hok2) rfl ?_; rintro _ HN17 hleN17 ⟨aN17, cN17, rfl, hN17⟩; replace hs := hs.mono hleN17; replace ht := ht.mono hleN17; replace hpK5 := hpK5.mono hleN17; replace hpK6 := hpK6.mono hleN17; replace hP5 := hP5.mono hleN17; replace hP6 := hP6.mono hleN17; refine XO.nil ?_
    exact stepQ_ok trivial (⟨_, _, rfl, hN17⟩)
   refine stepsD_cons rfl ?_ ?_
   ·intro X HD hleD _
    replace hs := hs.mono hleD; replace ht := ht.mono hleD; replace hpK5 := hpK5.mono hleD; replace hpK6 := hpK6.mono hleD; replace hP5 := hP5.mono hleD; replace hP6 := hP6.mono hleD; refine withPreds_cons rfl rfl ?_; rintro _ ⟨a15, c15, rfl, hT15⟩; refine withPreds_cons rfl rfl ?_; rintro _ ⟨a17, c17, rfl, hT17⟩; refine withPreds_nil rfl ?_; refine XO.callV rfl (bcmp_fn _ _ _ _ (textC s) (textC t) _ hT15 hT17) rfl ?_; refine XO.nil ?_
    exact stepQ_ok trivial (rfl)
   refine stepsD_cons rfl ?_ ?_
   ·intro X HD hleD _
    replace hs := hs.mono hleD; replace ht := ht.mono hleD; replace hpK5 := hpK5.mono hleD; replace hpK6 := hpK6.mono hleD; replace hP5 := hP5.mono hleD; replace hP6 := hP6.mono hleD; refine withPreds_cons rfl rfl ?_; rintro _ rfl; refine withPreds_cons rfl rfl ?_; rintro _ rfl; refine withPreds_nil rfl ?_; refine XO.buildSlice rfl Try.underlying23 ty_3 ze_3 rfl rfl rfl (fun b19 => ?_); refine XO.publish 0 rfl rfl rfl (fun HP19 oP19 hleP19 hbP19 hoP19 => ?_)
    have hsl19 := SlR.lit (ρ := (intR .i64)) (l := [cmpL (plcL s) (plcL t), cmpB (textC s) (textC t)]) hbP19 hoP19 (RowsR.cons1 (cs := [_]) rfl (RowsR.one1 rfl))
    replace hs := hs.mono hleP19; replace ht := ht.mono hleP19; replace hpK5 := hpK5.mono hleP19; replace hpK6 := hpK6.mono hleP19; replace hP5 := hP5.mono hleP19; replace hP6 := hP6.mono hleP19; refine XO.nil ?_
    exact stepQ_ok trivial (⟨_, rfl, hsl19⟩)
   refine stepsD_cons rfl ?_ ?_
   ·intro X HD hleD _
    replace hs := hs.mono hleD; replace ht := ht.mono hleD; replace hpK5 := hpK5.mono hleD; replace hpK6 := hpK6.mono hleD; replace hP5 := hP5.mono hleD; replace hP6 := hP6.mono hleD; refine withPreds_cons rfl rfl ?_; rintro _ ⟨bs19, rfl, hsl19⟩; refine withPreds_nil rfl ?_; refine XO.callV rfl (or_fn _ _ [cmpL (plcL s) (plcL t), cmpB (textC s) (textC t)] _ hsl19 (show (2 : Nat) < 9223372036854775808 by decide)) rfl ?_; refine XO.nil ?_
    exact stepQ_ok trivial (rfl)
   exact stepsD_end rfl
  case tail4 =>
   intro HD hleD _
   replace hs := hs.mono hleD; replace ht := ht.mono hleD; replace hpK5 := hpK5.mono hleD; replace hpK6 := hpK6.mono hleD; replace hP5 := hP5.mono hleD; replace hP6 := hP6.mono hleD; refine withPreds_cons rfl rfl ?_; rintro _ rfl; refine withPreds_cons rfl rfl ?_; rintro _ rfl; refine withPreds_cons rfl rfl ?_; rintro _ rfl; refine withPreds_cons rfl rfl ?_; rintro _ rfl; refine withPreds_cons rfl rfl ?_; rintro _ ⟨a15, c15, rfl, hT15⟩; refine withPreds_cons rfl rfl ?_; rintro _ rfl; refine withPreds_cons rfl rfl ?_; rintro _ ⟨a17, c17, rfl, hT17⟩; refine withPreds_cons rfl rfl ?_; rintro _ rfl; refine withPreds_cons rfl rfl ?_; rintro _ ⟨bs19, rfl, hsl19⟩; refine withPreds_cons rfl rfl ?_; rintro _ rfl; refine withPreds_nil rfl ?_; refine XO.assign rfl rfl ?_; refine XO.nil ?_; refine XC.seq2 ?_; refine XC.ret ?_; refine ⟨rfl, _, [], rfl, (by repeat (first | exact List.Sublist.refl _ | apply List.Sublist.cons)), RetR.mk ?_⟩
   rfl

end Go.Proofs

/- Boxes: slots and boxes checked, in plain Lean. -/
set_option maxRecDepth 100000
set_option autoImplicit false
set_option linter.unusedVariables false
set_option linter.unusedSimpArgs false
namespace Go.Proofs
open Go.XL
def c0 : Card := ⟨0, 0, 0, [], List.replicate 32 0⟩
/-- the first card of a slot -/
def hd (x : List Card) : Card := x.headD c0
theorem hd_at {x : List Card} {s : Card} (h : x[0]? = some s) : s = hd x := by
 cases x with
 | nil => cases h
 | cons y r => simp at h; rw [← h]; rfl
/-- strictly rising by an order -/
def riseG {α : Type} (q : α → α → Int) : List α → Bool
 | x :: y :: r => decide (q x y < 0) && riseG q (y :: r)
 | _ => true
section
variable {α : Type} {q : α → α → Int} {l : List α} {k : Nat} {x y : α} {c : Bool}
theorem rise_y (h : c = riseG q (l.drop k)) (hx : l[k]? = some x) (hy : l[k + 1]? = some y) (hq : q x y < 0) : c = riseG q (l.drop (k + 1)) := by
 rw [h, drop_cons hx, drop_cons hy, riseG, decide_eq_true hq, Bool.true_and]
theorem rise_n (h : c = riseG q (l.drop k)) (hx : l[k]? = some x) (hy : l[k + 1]? = some y) (hq : ¬ q x y < 0) : false = c := by
 rw [h, drop_cons hx, drop_cons hy, riseG, decide_eq_false hq, Bool.false_and]
theorem rise_e (h : c = riseG q (l.drop k)) (hk : l.length ≤ k + 1) : true = c := by
 rw [h]
 rcases Nat.lt_or_ge k l.length with h1 | h1
 ·rw [List.drop_eq_getElem_cons h1, List.drop_of_length_le hk]; rfl
 ·rw [List.drop_of_length_le h1]; rfl
theorem riseG_at : ∀ {l : List α}, riseG q l = true ↔ ∀ i x y, l[i]? = some x → l[i + 1]? = some y → q x y < 0
  | [] => by simp [riseG]
  | [a] => by simp [riseG]
  | a :: b :: r => by
    rw [riseG, Bool.and_eq_true, decide_eq_true_iff, riseG_at (l := b :: r)]
    constructor
    · rintro ⟨h1, h2⟩ i x y hx hy
      cases i with
      | zero => simp at hx hy; subst hx; subst hy; exact h1
      | succ i => exact h2 i x y (by simpa using hx) (by simpa using hy)
    · intro h
      exact ⟨h 0 a b rfl rfl, fun i x y hx hy => h (i + 1) x y (by simpa using hx) (by simpa using hy)⟩
end
def slotB : List Card → Bool
 | [s] => decide (okC s)
 | [s, t] => decide (((okC s ∧ okC t) ∧ plcL s = plcL t) ∧ cmpB (textC s) (textC t) < 0)
 | _ => false
def plq (x y : List Card) : Int := cmpL (plcL (hd x)) (plcL (hd y))
def boxB (b : Box) : Bool := b.all slotB && riseG plq b
def chkB (b : Box) : Int := if 4096 < b.length then 2 else if boxB b = true then 0 else 350
theorem slot_len {x : List Card} (h : slotB x = true) : 1 ≤ x.length ∧ x.length ≤ 2 := by
 match x, h with
 | [s], _ => simp
 | [s, t], _ => simp
theorem slot_ok {x : List Card} (h : slotB x = true) : ∀ s ∈ x, okC s := by
  match x, h with
  | [s], h => intro t ht; simp only [List.mem_singleton] at ht; subst ht; exact of_decide_eq_true h
  | [s, t], h =>
    have := of_decide_eq_true h
    intro u hu
    simp only [List.mem_cons, List.not_mem_nil, or_false] at hu
    rcases hu with rfl | rfl
    · exact this.1.1.1
    · exact this.1.1.2
theorem ordC_same {s t : Card} (h : plcL s = plcL t) : ordC s t = cmpB (textC s) (textC t) := by
 unfold ordC; rw [or_two, if_pos (cmp_0.2 h)]
theorem ordC_diff {s t : Card} (h : plcL s ≠ plcL t) : ordC s t = cmpL (plcL s) (plcL t) := by
 unfold ordC; rw [or_two, if_neg (fun e => h (cmp_0.1 e))]
theorem slot_y {x : List Card} (h : 1 ≤ x.length ∧ x.length ≤ 2) (h1 : ∀ s ∈ x, okC s ∧ plcL s = plcL (hd x)) (h2 : riseG ordC x = true) : slotB x = true := by
  match x, h with
  | [s], _ => exact decide_eq_true (h1 s (by simp)).1
  | [s, t], _ =>
    have e := (h1 t (by simp)).2
    have e2 : plcL s = plcL t := e.symm
    refine decide_eq_true ⟨⟨⟨(h1 s (by simp)).1, (h1 t (by simp)).1⟩, e2⟩, ?_⟩
    have := (riseG_at.1 h2) 0 s t rfl rfl
    rwa [ordC_same e2] at this
  | s :: t :: u :: r, h => simp at h
theorem slot_nl {x : List Card} (h : ¬ (1 ≤ x.length ∧ x.length ≤ 2)) : slotB x = false := by
 cases hb : slotB x with
 | false => rfl
 | true => exact absurd (slot_len hb) h
theorem slot_nc {x : List Card} {s : Card} (hs : s ∈ x) (h : ¬ okC s) : slotB x = false := by
 cases hb : slotB x with
 | false => rfl
 | true => exact absurd (slot_ok hb s hs) h
theorem slot_plc {x : List Card} (h : slotB x = true) {s : Card} (hs : s ∈ x) : plcL s = plcL (hd x) := by
  match x, h with
  | [t], h => simp only [List.mem_singleton] at hs; subst hs; rfl
  | [t, u], h =>
    have := of_decide_eq_true h
    simp only [List.mem_cons, List.not_mem_nil, or_false] at hs
    rcases hs with rfl | rfl
    · rfl
    · exact this.1.2.symm
theorem slot_np {x : List Card} {s : Card} (hs : s ∈ x) (h : plcL s ≠ plcL (hd x)) : slotB x = false := by
 cases hb : slotB x with
 | false => rfl
 | true => exact absurd (slot_plc hb hs) h
theorem slot_rise {x : List Card} (h : slotB x = true) : riseG ordC x = true := by
  match x, h with
  | [t], h => rfl
  | [t, u], h =>
    have := of_decide_eq_true h
    rw [riseG, decide_eq_true (by rw [ordC_same this.1.2]; exact this.2)]; rfl
theorem slot_nr {x : List Card} (h : riseG ordC x = false) : slotB x = false := by
 cases hb : slotB x with
 | false => rfl
 | true => rw [slot_rise hb] at h; cases h
theorem bchk_2 {b : Box} (h : 4096 < b.length) : chkB b = 2 := if_pos h
theorem bchk_0 {b : Box} (h : ¬ 4096 < b.length) (h1 : b.all slotB = true) (h2 : riseG plq b = true) : chkB b = 0 := by unfold chkB boxB; rw [if_neg h, h1, h2]; rfl
theorem bchk_s {b : Box} {x : List Card} (h : ¬ 4096 < b.length) (hx : x ∈ b) (h1 : slotB x = false) : chkB b = 350 := by
 have : b.all slotB = false := by
  cases hb : b.all slotB with
  | false => rfl
  | true => have := List.all_eq_true.1 hb x hx; rw [h1] at this; cases this
 unfold chkB boxB; rw [if_neg h, this]; rfl
theorem bchk_r {b : Box} (h : ¬ 4096 < b.length) (h1 : riseG plq b = false) : chkB b = 350 := by
 unfold chkB boxB; rw [if_neg h, h1, Bool.and_false]; rfl
theorem chkB_0 {b : Box} (h : chkB b = 0) : b.length ≤ 4096 ∧ b.all slotB = true ∧ riseG plq b = true := by
 unfold chkB at h
 split at h
 ·cases h
 ·split at h
  ·rename_i h1 h2
   unfold boxB at h2
   rw [Bool.and_eq_true] at h2
   exact ⟨by omega, h2⟩
  ·cases h
theorem all_take {b : Box} {k : Nat} {x : List Card} (hx : b[k]? = some x) (h : (b.take k).all slotB = true) (h1 : slotB x = true) : (b.take (k + 1)).all slotB = true := by
 rw [take_snoc hx, List.all_append, h]; simp [h1]
theorem pos_of {x : List Card} (h : slotB x = true) : 0 < x.length := (slot_len h).1
/-- valid as the reference asks -/
theorem slot_two {s t : Card} (h1 : okC s) (h2 : okC t) (h3 : plcL s = plcL t) : decide (cmpB (textC s) (textC t) < 0) = slotB [s, t] := decide_eq_decide.2 ⟨fun h => ⟨⟨⟨h1, h2⟩, h3⟩, h⟩, fun h => h.2⟩
theorem slot_one {s : Card} (h1 : okC s) : true = slotB [s] := (decide_eq_true h1).symm
theorem sel_iff {s : Card} : selC s = 0 ↔ okC s := by
 unfold selC; split
 ·rename_i h; exact ⟨fun _ => h, fun _ => rfl⟩
 ·rename_i h; exact ⟨fun e => (by cases e), fun e => absurd e h⟩
theorem len_one {x : List Card} (h : x.length = 1) : x = [hd x] := by
 match x, h with
 | [s], _ => rfl
end Go.Proofs

/- Boxes: the heap grows. -/
set_option autoImplicit false
namespace Go.Proofs
open Go.XL
def LeW (H H' : Hp) : Prop := Le H H'
theorem LeW.mono {H H' H'' : Hp} (h : LeW H H') (hle : Le H' H'') : LeW H H'' := Le.trans h hle
end Go.Proofs
