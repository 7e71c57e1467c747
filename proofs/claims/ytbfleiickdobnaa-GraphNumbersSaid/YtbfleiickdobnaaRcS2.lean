/- The walks of the functions of the graph: what each of them computes, at any input. -/
import Derived.Test.YtbfleiickdobnaaRcS
set_option autoImplicit false
set_option linter.unusedVariables false
set_option linter.unusedSimpArgs false
namespace Go.Proofs
open Go.XL



set_option maxRecDepth 100000 in
set_option maxHeartbeats 1600000 in
theorem sane37 (H : Hp) : FnC Try.prog 10 #[] H [] (RetR (fun v _ _ => v = .bool true)) := by
  refine FnC.intro (args := []) Try.func10 rfl rfl Try.ntmps10 rfl rfl rfl fun G rest => ?_
  refine XC.seq ?_
  refine XC.region ?_
  refine XO.assign rfl rfl ?_
  refine XO.nil ?_
  refine XC.seq2 ?_
  refine XC.seq ?_
  refine XC.region ?_
  refine XO.buildSlice rfl Try.underlying40 ty_4 ze_4 rfl rfl rfl (fun b39 => ?_)
  refine XO.publish 0 rfl rfl rfl (fun HP39 oP39 hleP39 hbP39 hoP39 => ?_)
  have hsl39 := SlR.lit (ρ := boolR) (l := [true, true]) hbP39 hoP39 (RowsR.cons1 (cs := [_]) rfl (RowsR.one1 rfl))
  refine XO.buildSlice rfl Try.underlying40 ty_4 ze_4 rfl rfl rfl (fun b40 => ?_)
  refine XO.publish 0 rfl rfl rfl (fun HP40 oP40 hleP40 hbP40 hoP40 => ?_)
  have hsl40 := SlR.lit (ρ := boolR) (l := [true, true]) hbP40 hoP40 (RowsR.cons1 (cs := [_]) rfl (RowsR.one1 rfl))
  replace hsl39 := hsl39.mono hleP40
  refine XO.buildSlice rfl Try.underlying22 ty_40 ze_40 rfl rfl rfl (fun b41 => ?_)
  refine XO.publish 0 rfl rfl rfl (fun HP41 oP41 hleP41 hbP41 hoP41 => ?_)
  replace hsl39 := hsl39.mono hleP41
  replace hsl40 := hsl40.mono hleP41
  have hsl41 := SlR.lit (ρ := tbR) (l := tbAll) hbP41 hoP41 (RowsR.cons1 (cs := [_]) ⟨_, _, rfl, hsl39⟩ (RowsR.one1 ⟨_, _, rfl, hsl40⟩))
  refine XO.assign rfl rfl ?_
  refine XO.nil ?_
  refine XC.seq2 ?_
  refine XC.seq ?_
  refine XC.region ?_
  refine XO.buildSlice rfl Try.underlying40 ty_4 ze_4 rfl rfl rfl (fun b42 => ?_)
  refine XO.publish 0 rfl rfl rfl (fun HP42 oP42 hleP42 hbP42 hoP42 => ?_)
  have hsl42 := SlR.lit (ρ := boolR) (l := [true, false]) hbP42 hoP42 (RowsR.cons1 (cs := [_]) rfl (RowsR.one1 rfl))
  replace hsl39 := hsl39.mono hleP42
  replace hsl40 := hsl40.mono hleP42
  replace hsl41 := hsl41.mono hleP42
  refine XO.buildSlice rfl Try.underlying40 ty_4 ze_4 rfl rfl rfl (fun b43 => ?_)
  refine XO.publish 0 rfl rfl rfl (fun HP43 oP43 hleP43 hbP43 hoP43 => ?_)
  have hsl43 := SlR.lit (ρ := boolR) (l := [false, true]) hbP43 hoP43 (RowsR.cons1 (cs := [_]) rfl (RowsR.one1 rfl))
  replace hsl39 := hsl39.mono hleP43
  replace hsl40 := hsl40.mono hleP43
  replace hsl41 := hsl41.mono hleP43
  replace hsl42 := hsl42.mono hleP43
  refine XO.buildSlice rfl Try.underlying22 ty_40 ze_40 rfl rfl rfl (fun b44 => ?_)
  refine XO.publish 0 rfl rfl rfl (fun HP44 oP44 hleP44 hbP44 hoP44 => ?_)
  replace hsl39 := hsl39.mono hleP44
  replace hsl40 := hsl40.mono hleP44
  replace hsl41 := hsl41.mono hleP44
  replace hsl42 := hsl42.mono hleP44
  replace hsl43 := hsl43.mono hleP44
  have hsl44 := SlR.lit (ρ := tbR) (l := tbTwo) hbP44 hoP44 (RowsR.cons1 (cs := [_]) ⟨_, _, rfl, hsl42⟩ (RowsR.one1 ⟨_, _, rfl, hsl43⟩))
  refine XO.assign rfl rfl ?_
  refine XO.nil ?_
  refine XC.seq2 ?_
  refine XC.seq ?_
  refine XC.region ?_
  refine XO.buildSlice rfl Try.underlying40 ty_4 ze_4 rfl rfl rfl (fun b45 => ?_)
  refine XO.publish 0 rfl rfl rfl (fun HP45 oP45 hleP45 hbP45 hoP45 => ?_)
  have hsl45 := SlR.lit (ρ := boolR) (l := [true, true, false]) hbP45 hoP45 (RowsR.cons1 (cs := [_]) rfl (RowsR.cons1 (cs := [_]) rfl (RowsR.one1 rfl)))
  replace hsl39 := hsl39.mono hleP45
  replace hsl40 := hsl40.mono hleP45
  replace hsl41 := hsl41.mono hleP45
  replace hsl42 := hsl42.mono hleP45
  replace hsl43 := hsl43.mono hleP45
  replace hsl44 := hsl44.mono hleP45
  refine XO.buildSlice rfl Try.underlying40 ty_4 ze_4 rfl rfl rfl (fun b46 => ?_)
  refine XO.publish 0 rfl rfl rfl (fun HP46 oP46 hleP46 hbP46 hoP46 => ?_)
  have hsl46 := SlR.lit (ρ := boolR) (l := [true, false, false]) hbP46 hoP46 (RowsR.cons1 (cs := [_]) rfl (RowsR.cons1 (cs := [_]) rfl (RowsR.one1 rfl)))
  replace hsl39 := hsl39.mono hleP46
  replace hsl40 := hsl40.mono hleP46
  replace hsl41 := hsl41.mono hleP46
  replace hsl42 := hsl42.mono hleP46
  replace hsl43 := hsl43.mono hleP46
  replace hsl44 := hsl44.mono hleP46
  replace hsl45 := hsl45.mono hleP46
  refine XO.buildSlice rfl Try.underlying40 ty_4 ze_4 rfl rfl rfl (fun b47 => ?_)
  refine XO.publish 0 rfl rfl rfl (fun HP47 oP47 hleP47 hbP47 hoP47 => ?_)
  have hsl47 := SlR.lit (ρ := boolR) (l := [true, false, true]) hbP47 hoP47 (RowsR.cons1 (cs := [_]) rfl (RowsR.cons1 (cs := [_]) rfl (RowsR.one1 rfl)))
  replace hsl39 := hsl39.mono hleP47
  replace hsl40 := hsl40.mono hleP47
  replace hsl41 := hsl41.mono hleP47
  replace hsl42 := hsl42.mono hleP47
  replace hsl43 := hsl43.mono hleP47
  replace hsl44 := hsl44.mono hleP47
  replace hsl45 := hsl45.mono hleP47
  replace hsl46 := hsl46.mono hleP47
  refine XO.buildSlice rfl Try.underlying22 ty_40 ze_40 rfl rfl rfl (fun b48 => ?_)
  refine XO.publish 0 rfl rfl rfl (fun HP48 oP48 hleP48 hbP48 hoP48 => ?_)
  replace hsl39 := hsl39.mono hleP48
  replace hsl40 := hsl40.mono hleP48
  replace hsl41 := hsl41.mono hleP48
  replace hsl42 := hsl42.mono hleP48
  replace hsl43 := hsl43.mono hleP48
  replace hsl44 := hsl44.mono hleP48
  replace hsl45 := hsl45.mono hleP48
  replace hsl46 := hsl46.mono hleP48
  replace hsl47 := hsl47.mono hleP48
  have hsl48 := SlR.lit (ρ := tbR) (l := tbStar) hbP48 hoP48 (RowsR.cons1 (cs := [_]) ⟨_, _, rfl, hsl45⟩ (RowsR.cons1 (cs := [_]) ⟨_, _, rfl, hsl46⟩ (RowsR.one1 ⟨_, _, rfl, hsl47⟩)))
  refine XO.assign rfl rfl ?_
  refine XO.nil ?_
  refine XC.seq2 ?_
  refine XC.seq ?_
  refine XC.region ?_
  refine XO.move rfl rfl ?_
  have hcall51 := dropOwn (tree_fn _ _ tbAll _ hsl41 (by decide))
  refine XO.callH rfl hcall51 rfl ?_
  rintro _ HT51 hleT51 hT51
  obtain ⟨a51, c51, h51, rfl⟩ := hT51.ex [(0, 0), (0, 1), (1, 0)] true (by decide +kernel) (by decide +kernel) (by decide +kernel)
  replace hsl39 := hsl39.mono hleT51
  replace hsl40 := hsl40.mono hleT51
  replace hsl41 := hsl41.mono hleT51
  replace hsl42 := hsl42.mono hleT51
  replace hsl43 := hsl43.mono hleT51
  replace hsl44 := hsl44.mono hleT51
  replace hsl45 := hsl45.mono hleT51
  replace hsl46 := hsl46.mono hleT51
  replace hsl47 := hsl47.mono hleT51
  replace hsl48 := hsl48.mono hleT51
  refine XO.move rfl rfl ?_
  refine XO.extract rfl rfl rfl ?_
  refine XO.extract rfl rfl rfl ?_
  refine XO.extract rfl rfl rfl ?_
  refine XO.assign rfl rfl ?_
  refine XO.assign rfl rfl ?_
  refine XO.assign rfl rfl ?_
  refine XO.nil ?_
  refine XC.seq2 ?_
  refine XC.seq ?_
  refine XC.region ?_
  refine XO.move rfl rfl ?_
  have hcall57 := dropOwn (tree_fn _ _ tbTwo _ hsl44 (by decide))
  refine XO.callH rfl hcall57 rfl ?_
  rintro _ HT57 hleT57 hT57
  obtain ⟨a57, c57, h57, rfl⟩ := hT57.ex [(0, 0), (1, 1)] false (by decide +kernel) (by decide +kernel) (by decide +kernel)
  replace hsl39 := hsl39.mono hleT57
  replace hsl40 := hsl40.mono hleT57
  replace hsl41 := hsl41.mono hleT57
  replace hsl42 := hsl42.mono hleT57
  replace hsl43 := hsl43.mono hleT57
  replace hsl44 := hsl44.mono hleT57
  replace hsl45 := hsl45.mono hleT57
  replace hsl46 := hsl46.mono hleT57
  replace hsl47 := hsl47.mono hleT57
  replace hsl48 := hsl48.mono hleT57
  replace h51 := h51.mono hleT57
  refine XO.move rfl rfl ?_
  refine XO.extract rfl rfl rfl ?_
  refine XO.extract rfl rfl rfl ?_
  refine XO.extract rfl rfl rfl ?_
  refine XO.assign rfl rfl ?_
  refine XO.assign rfl rfl ?_
  refine XO.assign rfl rfl ?_
  refine XO.nil ?_
  refine XC.seq2 ?_
  refine XC.seq ?_
  refine XC.region ?_
  refine XO.move rfl rfl ?_
  have hcall63 := dropOwn (cut_fn _ _ tbTwo _ hsl44 (by decide))
  refine XO.callH rfl hcall63 rfl ?_
  rintro _ HT63 hleT63 hT63
  obtain ⟨a63, c63, b63, d63, h63, i63, rfl⟩ := hT63.ex [0] [0] (by decide +kernel) (by decide +kernel) (by decide +kernel) (by decide +kernel)
  replace hsl39 := hsl39.mono hleT63
  replace hsl40 := hsl40.mono hleT63
  replace hsl41 := hsl41.mono hleT63
  replace hsl42 := hsl42.mono hleT63
  replace hsl43 := hsl43.mono hleT63
  replace hsl44 := hsl44.mono hleT63
  replace hsl45 := hsl45.mono hleT63
  replace hsl46 := hsl46.mono hleT63
  replace hsl47 := hsl47.mono hleT63
  replace hsl48 := hsl48.mono hleT63
  replace h51 := h51.mono hleT63
  replace h57 := h57.mono hleT63
  refine XO.move rfl rfl ?_
  refine XO.extract rfl rfl rfl ?_
  refine XO.extract rfl rfl rfl ?_
  refine XO.extract rfl rfl rfl ?_
  refine XO.extract rfl rfl rfl ?_
  refine XO.assign rfl rfl ?_
  refine XO.assign rfl rfl ?_
  refine XO.assign rfl rfl ?_
  refine XO.assign rfl rfl ?_
  refine XO.nil ?_
  refine XC.seq2 ?_
  refine XC.seq ?_
  refine XC.region ?_
  refine XO.move rfl rfl ?_
  have hcall70 := dropOwn (cut_fn _ _ tbAll _ hsl41 (by decide))
  refine XO.callH rfl hcall70 rfl ?_
  rintro _ HT70 hleT70 hT70
  obtain rfl := hT70.no (by decide +kernel) (by decide +kernel)
  replace hsl39 := hsl39.mono hleT70
  replace hsl40 := hsl40.mono hleT70
  replace hsl41 := hsl41.mono hleT70
  replace hsl42 := hsl42.mono hleT70
  replace hsl43 := hsl43.mono hleT70
  replace hsl44 := hsl44.mono hleT70
  replace hsl45 := hsl45.mono hleT70
  replace hsl46 := hsl46.mono hleT70
  replace hsl47 := hsl47.mono hleT70
  replace hsl48 := hsl48.mono hleT70
  replace h51 := h51.mono hleT70
  replace h57 := h57.mono hleT70
  replace h63 := h63.mono hleT70
  replace i63 := i63.mono hleT70
  refine XO.move rfl rfl ?_
  refine XO.extract rfl rfl rfl ?_
  refine XO.extract rfl rfl rfl ?_
  refine XO.extract rfl rfl rfl ?_
  refine XO.extract rfl rfl rfl ?_
  refine XO.assign rfl rfl ?_
  refine XO.assign rfl rfl ?_
  refine XO.assign rfl rfl ?_
  refine XO.assign rfl rfl ?_
  refine XO.nil ?_
  refine XC.seq2 ?_
  refine XC.seq ?_
  refine XC.region ?_
  refine XO.move rfl rfl ?_
  have hcall77 := dropOwn (resist_fn _ _ tbStar _ hsl48 (by decide) ((1 : Nat) : Int) (by decide))
  refine XO.callH rfl hcall77 rfl ?_
  rintro _ HT77 hleT77 hT77
  obtain ⟨a77, c77, h77, rfl⟩ := hT77.ex [0] (by decide +kernel) (by decide) (by decide +kernel)
  replace hsl39 := hsl39.mono hleT77
  replace hsl40 := hsl40.mono hleT77
  replace hsl41 := hsl41.mono hleT77
  replace hsl42 := hsl42.mono hleT77
  replace hsl43 := hsl43.mono hleT77
  replace hsl44 := hsl44.mono hleT77
  replace hsl45 := hsl45.mono hleT77
  replace hsl46 := hsl46.mono hleT77
  replace hsl47 := hsl47.mono hleT77
  replace hsl48 := hsl48.mono hleT77
  replace h51 := h51.mono hleT77
  replace h57 := h57.mono hleT77
  replace h63 := h63.mono hleT77
  replace i63 := i63.mono hleT77
  refine XO.move rfl rfl ?_
  refine XO.extract rfl rfl rfl ?_
  refine XO.extract rfl rfl rfl ?_
  refine XO.extract rfl rfl rfl ?_
  refine XO.assign rfl rfl ?_
  refine XO.assign rfl rfl ?_
  refine XO.assign rfl rfl ?_
  refine XO.nil ?_
  refine XC.seq2 ?_
  refine XC.seq ?_
  refine XC.region ?_
  refine XO.move rfl rfl ?_
  have hcall83 := dropOwn (resist_fn _ _ tbAll _ hsl41 (by decide) ((1 : Nat) : Int) (by decide))
  refine XO.callH rfl hcall83 rfl ?_
  rintro _ HT83 hleT83 hT83
  obtain rfl := hT83.no (by decide +kernel) (by decide) (by decide +kernel)
  replace hsl39 := hsl39.mono hleT83
  replace hsl40 := hsl40.mono hleT83
  replace hsl41 := hsl41.mono hleT83
  replace hsl42 := hsl42.mono hleT83
  replace hsl43 := hsl43.mono hleT83
  replace hsl44 := hsl44.mono hleT83
  replace hsl45 := hsl45.mono hleT83
  replace hsl46 := hsl46.mono hleT83
  replace hsl47 := hsl47.mono hleT83
  replace hsl48 := hsl48.mono hleT83
  replace h51 := h51.mono hleT83
  replace h57 := h57.mono hleT83
  replace h63 := h63.mono hleT83
  replace i63 := i63.mono hleT83
  replace h77 := h77.mono hleT83
  refine XO.move rfl rfl ?_
  refine XO.extract rfl rfl rfl ?_
  refine XO.extract rfl rfl rfl ?_
  refine XO.extract rfl rfl rfl ?_
  refine XO.assign rfl rfl ?_
  refine XO.assign rfl rfl ?_
  refine XO.assign rfl rfl ?_
  refine XO.nil ?_
  refine XC.seq2 ?_
  refine XC.seq ?_
  refine XC.region ?_
  refine XO.move rfl rfl ?_
  have hcall89 := dropOwn (resist_fn _ _ tbAll _ hsl41 (by decide) ((3 : Nat) : Int) (by decide))
  refine XO.callH rfl hcall89 rfl ?_
  rintro _ HT89 hleT89 hT89
  obtain ⟨a89, c89, h89, rfl⟩ := hT89.ex [0, 1] (by decide +kernel) (by decide) (by decide +kernel)
  replace hsl39 := hsl39.mono hleT89
  replace hsl40 := hsl40.mono hleT89
  replace hsl41 := hsl41.mono hleT89
  replace hsl42 := hsl42.mono hleT89
  replace hsl43 := hsl43.mono hleT89
  replace hsl44 := hsl44.mono hleT89
  replace hsl45 := hsl45.mono hleT89
  replace hsl46 := hsl46.mono hleT89
  replace hsl47 := hsl47.mono hleT89
  replace hsl48 := hsl48.mono hleT89
  replace h51 := h51.mono hleT89
  replace h57 := h57.mono hleT89
  replace h63 := h63.mono hleT89
  replace i63 := i63.mono hleT89
  replace h77 := h77.mono hleT89
  refine XO.move rfl rfl ?_
  refine XO.extract rfl rfl rfl ?_
  refine XO.extract rfl rfl rfl ?_
  refine XO.extract rfl rfl rfl ?_
  refine XO.assign rfl rfl ?_
  refine XO.assign rfl rfl ?_
  refine XO.assign rfl rfl ?_
  refine XO.nil ?_
  refine XC.seq2 ?_
  refine XC.seq ?_
  refine XC.region ?_
  have hcall94 := dropOwn (tree_fn none 0 [] HT89 (SlR.nil0 _ _) (by decide))
  refine XO.callH rfl hcall94 rfl ?_
  rintro _ HT94 hleT94 hT94
  obtain ⟨a94, c94, h94, rfl⟩ := hT94.ex [] true (by decide +kernel) (by decide +kernel) (by decide +kernel)
  replace hsl39 := hsl39.mono hleT94
  replace hsl40 := hsl40.mono hleT94
  replace hsl41 := hsl41.mono hleT94
  replace hsl42 := hsl42.mono hleT94
  replace hsl43 := hsl43.mono hleT94
  replace hsl44 := hsl44.mono hleT94
  replace hsl45 := hsl45.mono hleT94
  replace hsl46 := hsl46.mono hleT94
  replace hsl47 := hsl47.mono hleT94
  replace hsl48 := hsl48.mono hleT94
  replace h51 := h51.mono hleT94
  replace h57 := h57.mono hleT94
  replace h63 := h63.mono hleT94
  replace i63 := i63.mono hleT94
  replace h77 := h77.mono hleT94
  replace h89 := h89.mono hleT94
  refine XO.move rfl rfl ?_
  refine XO.extract rfl rfl rfl ?_
  refine XO.extract rfl rfl rfl ?_
  refine XO.extract rfl rfl rfl ?_
  refine XO.assign rfl rfl ?_
  refine XO.assign rfl rfl ?_
  refine XO.assign rfl rfl ?_
  refine XO.nil ?_
  refine XC.seq2 ?_
  refine XC.seq ?_
  refine XC.region ?_
  refine XO.buildSlice rfl Try.underlying40 ty_4 ze_4 rfl rfl rfl (fun b99 => ?_)
  refine XO.publish 0 rfl rfl rfl (fun HP99 oP99 hleP99 hbP99 hoP99 => ?_)
  have hsl99 := SlR.lit (ρ := boolR) (l := []) hbP99 hoP99 rfl
  replace hsl39 := hsl39.mono hleP99
  replace hsl40 := hsl40.mono hleP99
  replace hsl41 := hsl41.mono hleP99
  replace hsl42 := hsl42.mono hleP99
  replace hsl43 := hsl43.mono hleP99
  replace hsl44 := hsl44.mono hleP99
  replace hsl45 := hsl45.mono hleP99
  replace hsl46 := hsl46.mono hleP99
  replace hsl47 := hsl47.mono hleP99
  replace hsl48 := hsl48.mono hleP99
  replace h51 := h51.mono hleP99
  replace h57 := h57.mono hleP99
  replace h63 := h63.mono hleP99
  replace i63 := i63.mono hleP99
  replace h77 := h77.mono hleP99
  replace h89 := h89.mono hleP99
  replace h94 := h94.mono hleP99
  refine XO.buildSlice rfl Try.underlying22 ty_40 ze_40 rfl rfl rfl (fun b100 => ?_)
  refine XO.publish 0 rfl rfl rfl (fun HP100 oP100 hleP100 hbP100 hoP100 => ?_)
  replace hsl39 := hsl39.mono hleP100
  replace hsl40 := hsl40.mono hleP100
  replace hsl41 := hsl41.mono hleP100
  replace hsl42 := hsl42.mono hleP100
  replace hsl43 := hsl43.mono hleP100
  replace hsl44 := hsl44.mono hleP100
  replace hsl45 := hsl45.mono hleP100
  replace hsl46 := hsl46.mono hleP100
  replace hsl47 := hsl47.mono hleP100
  replace hsl48 := hsl48.mono hleP100
  replace h51 := h51.mono hleP100
  replace h57 := h57.mono hleP100
  replace h63 := h63.mono hleP100
  replace i63 := i63.mono hleP100
  replace h77 := h77.mono hleP100
  replace h89 := h89.mono hleP100
  replace h94 := h94.mono hleP100
  replace hsl99 := hsl99.mono hleP100
  have hsl100 := SlR.lit (ρ := tbR) (l := [[]]) hbP100 hoP100 (RowsR.one1 ⟨_, _, rfl, hsl99⟩)
  have hcall101 := dropOwn (tree_fn _ _ [[]] _ hsl100 (by decide))
  refine XO.callH rfl hcall101 rfl ?_
  rintro _ HT101 hleT101 hT101
  obtain ⟨a101, c101, h101, rfl⟩ := hT101.ex [] true (by decide +kernel) (by decide +kernel) (by decide +kernel)
  replace hsl39 := hsl39.mono hleT101
  replace hsl40 := hsl40.mono hleT101
  replace hsl41 := hsl41.mono hleT101
  replace hsl42 := hsl42.mono hleT101
  replace hsl43 := hsl43.mono hleT101
  replace hsl44 := hsl44.mono hleT101
  replace hsl45 := hsl45.mono hleT101
  replace hsl46 := hsl46.mono hleT101
  replace hsl47 := hsl47.mono hleT101
  replace hsl48 := hsl48.mono hleT101
  replace h51 := h51.mono hleT101
  replace h57 := h57.mono hleT101
  replace h63 := h63.mono hleT101
  replace i63 := i63.mono hleT101
  replace h77 := h77.mono hleT101
  replace h89 := h89.mono hleT101
  replace h94 := h94.mono hleT101
  replace hsl99 := hsl99.mono hleT101
  replace hsl100 := hsl100.mono hleT101
  refine XO.move rfl rfl ?_
  refine XO.extract rfl rfl rfl ?_
  refine XO.extract rfl rfl rfl ?_
  refine XO.extract rfl rfl rfl ?_
  refine XO.assign rfl rfl ?_
  refine XO.assign rfl rfl ?_
  refine XO.assign rfl rfl ?_
  refine XO.nil ?_
  refine XC.seq2 ?_
  refine XC.seq ?_
  refine XC.region ?_
  refine XO.buildSlice rfl Try.underlying40 ty_4 ze_4 rfl rfl rfl (fun b106 => ?_)
  refine XO.publish 0 rfl rfl rfl (fun HP106 oP106 hleP106 hbP106 hoP106 => ?_)
  have hsl106 := SlR.lit (ρ := boolR) (l := []) hbP106 hoP106 rfl
  replace hsl39 := hsl39.mono hleP106
  replace hsl40 := hsl40.mono hleP106
  replace hsl41 := hsl41.mono hleP106
  replace hsl42 := hsl42.mono hleP106
  replace hsl43 := hsl43.mono hleP106
  replace hsl44 := hsl44.mono hleP106
  replace hsl45 := hsl45.mono hleP106
  replace hsl46 := hsl46.mono hleP106
  replace hsl47 := hsl47.mono hleP106
  replace hsl48 := hsl48.mono hleP106
  replace h51 := h51.mono hleP106
  replace h57 := h57.mono hleP106
  replace h63 := h63.mono hleP106
  replace i63 := i63.mono hleP106
  replace h77 := h77.mono hleP106
  replace h89 := h89.mono hleP106
  replace h94 := h94.mono hleP106
  replace hsl99 := hsl99.mono hleP106
  replace hsl100 := hsl100.mono hleP106
  replace h101 := h101.mono hleP106
  refine XO.buildSlice rfl Try.underlying40 ty_4 ze_4 rfl rfl rfl (fun b107 => ?_)
  refine XO.publish 0 rfl rfl rfl (fun HP107 oP107 hleP107 hbP107 hoP107 => ?_)
  have hsl107 := SlR.lit (ρ := boolR) (l := []) hbP107 hoP107 rfl
  replace hsl39 := hsl39.mono hleP107
  replace hsl40 := hsl40.mono hleP107
  replace hsl41 := hsl41.mono hleP107
  replace hsl42 := hsl42.mono hleP107
  replace hsl43 := hsl43.mono hleP107
  replace hsl44 := hsl44.mono hleP107
  replace hsl45 := hsl45.mono hleP107
  replace hsl46 := hsl46.mono hleP107
  replace hsl47 := hsl47.mono hleP107
  replace hsl48 := hsl48.mono hleP107
  replace h51 := h51.mono hleP107
  replace h57 := h57.mono hleP107
  replace h63 := h63.mono hleP107
  replace i63 := i63.mono hleP107
  replace h77 := h77.mono hleP107
  replace h89 := h89.mono hleP107
  replace h94 := h94.mono hleP107
  replace hsl99 := hsl99.mono hleP107
  replace hsl100 := hsl100.mono hleP107
  replace h101 := h101.mono hleP107
  replace hsl106 := hsl106.mono hleP107
  refine XO.buildSlice rfl Try.underlying22 ty_40 ze_40 rfl rfl rfl (fun b108 => ?_)
  refine XO.publish 0 rfl rfl rfl (fun HP108 oP108 hleP108 hbP108 hoP108 => ?_)
  replace hsl39 := hsl39.mono hleP108
  replace hsl40 := hsl40.mono hleP108
  replace hsl41 := hsl41.mono hleP108
  replace hsl42 := hsl42.mono hleP108
  replace hsl43 := hsl43.mono hleP108
  replace hsl44 := hsl44.mono hleP108
  replace hsl45 := hsl45.mono hleP108
  replace hsl46 := hsl46.mono hleP108
  replace hsl47 := hsl47.mono hleP108
  replace hsl48 := hsl48.mono hleP108
  replace h51 := h51.mono hleP108
  replace h57 := h57.mono hleP108
  replace h63 := h63.mono hleP108
  replace i63 := i63.mono hleP108
  replace h77 := h77.mono hleP108
  replace h89 := h89.mono hleP108
  replace h94 := h94.mono hleP108
  replace hsl99 := hsl99.mono hleP108
  replace hsl100 := hsl100.mono hleP108
  replace h101 := h101.mono hleP108
  replace hsl106 := hsl106.mono hleP108
  replace hsl107 := hsl107.mono hleP108
  have hsl108 := SlR.lit (ρ := tbR) (l := [[], []]) hbP108 hoP108 (RowsR.cons1 (cs := [_]) ⟨_, _, rfl, hsl106⟩ (RowsR.one1 ⟨_, _, rfl, hsl107⟩))
  have hcall109 := dropOwn (tree_fn _ _ [[], []] _ hsl108 (by decide))
  refine XO.callH rfl hcall109 rfl ?_
  rintro _ HT109 hleT109 hT109
  obtain ⟨a109, c109, h109, rfl⟩ := hT109.ex [] false (by decide +kernel) (by decide +kernel) (by decide +kernel)
  replace hsl39 := hsl39.mono hleT109
  replace hsl40 := hsl40.mono hleT109
  replace hsl41 := hsl41.mono hleT109
  replace hsl42 := hsl42.mono hleT109
  replace hsl43 := hsl43.mono hleT109
  replace hsl44 := hsl44.mono hleT109
  replace hsl45 := hsl45.mono hleT109
  replace hsl46 := hsl46.mono hleT109
  replace hsl47 := hsl47.mono hleT109
  replace hsl48 := hsl48.mono hleT109
  replace h51 := h51.mono hleT109
  replace h57 := h57.mono hleT109
  replace h63 := h63.mono hleT109
  replace i63 := i63.mono hleT109
  replace h77 := h77.mono hleT109
  replace h89 := h89.mono hleT109
  replace h94 := h94.mono hleT109
  replace hsl99 := hsl99.mono hleT109
  replace hsl100 := hsl100.mono hleT109
  replace h101 := h101.mono hleT109
  replace hsl106 := hsl106.mono hleT109
  replace hsl107 := hsl107.mono hleT109
  replace hsl108 := hsl108.mono hleT109
  refine XO.move rfl rfl ?_
  refine XO.extract rfl rfl rfl ?_
  refine XO.extract rfl rfl rfl ?_
  refine XO.extract rfl rfl rfl ?_
  refine XO.assign rfl rfl ?_
  refine XO.assign rfl rfl ?_
  refine XO.assign rfl rfl ?_
  refine XO.nil ?_
  refine XC.seq2 ?_
  refine XC.seq ?_
  refine XC.region ?_
  refine XO.move rfl rfl ?_
  have hcall115 := dropOwn (resist_fn _ _ tbAll _ hsl41 (by decide) 4 (by decide))
  refine XO.callH rfl hcall115 rfl ?_
  rintro _ HT115 hleT115 hT115
  obtain rfl := hT115.2.1 (by decide +kernel) (by decide)
  replace hsl39 := hsl39.mono hleT115
  replace hsl40 := hsl40.mono hleT115
  replace hsl41 := hsl41.mono hleT115
  replace hsl42 := hsl42.mono hleT115
  replace hsl43 := hsl43.mono hleT115
  replace hsl44 := hsl44.mono hleT115
  replace hsl45 := hsl45.mono hleT115
  replace hsl46 := hsl46.mono hleT115
  replace hsl47 := hsl47.mono hleT115
  replace hsl48 := hsl48.mono hleT115
  replace h51 := h51.mono hleT115
  replace h57 := h57.mono hleT115
  replace h63 := h63.mono hleT115
  replace i63 := i63.mono hleT115
  replace h77 := h77.mono hleT115
  replace h89 := h89.mono hleT115
  replace h94 := h94.mono hleT115
  replace hsl99 := hsl99.mono hleT115
  replace hsl100 := hsl100.mono hleT115
  replace h101 := h101.mono hleT115
  replace hsl106 := hsl106.mono hleT115
  replace hsl107 := hsl107.mono hleT115
  replace hsl108 := hsl108.mono hleT115
  replace h109 := h109.mono hleT115
  refine XO.move rfl rfl ?_
  refine XO.extract rfl rfl rfl ?_
  refine XO.extract rfl rfl rfl ?_
  refine XO.extract rfl rfl rfl ?_
  refine XO.assign rfl rfl ?_
  refine XO.assign rfl rfl ?_
  refine XO.assign rfl rfl ?_
  refine XO.nil ?_
  refine XC.seq2 ?_
  refine XC.seq ?_
  refine XC.seq ?_
  refine XC.region ?_
  refine XO.move rfl rfl ?_
  refine XO.neq rfl rfl rfl ?_
  refine XO.move rfl rfl ?_
  refine XO.guardT rfl rfl (rfl) rfl ?_
  refine XO.move rfl rfl ?_
  refine XO.guardT rfl rfl (rfl) rfl ?_
  refine XO.neq rfl rfl rfl ?_
  refine XO.pickF rfl (rfl) rfl rfl ?_
  refine XO.move rfl rfl ?_
  refine XO.guardT rfl rfl (rfl) rfl ?_
  refine XO.move rfl rfl ?_
  refine XO.guardT rfl rfl (rfl) rfl ?_
  refine XO.neq rfl rfl rfl ?_
  refine XO.pickF rfl (rfl) rfl rfl ?_
  refine XO.move rfl rfl ?_
  refine XO.guardT rfl rfl (rfl) rfl ?_
  refine XO.move rfl rfl ?_
  refine XO.guardT rfl rfl (rfl) rfl ?_
  refine XO.neq rfl rfl rfl ?_
  refine XO.pickF rfl (rfl) rfl rfl ?_
  refine XO.move rfl rfl ?_
  refine XO.guardT rfl rfl (rfl) rfl ?_
  refine XO.move rfl rfl ?_
  refine XO.guardT rfl rfl (rfl) rfl ?_
  refine XO.neq rfl rfl rfl ?_
  refine XO.pickF rfl (rfl) rfl rfl ?_
  refine XO.move rfl rfl ?_
  refine XO.guardT rfl rfl (rfl) rfl ?_
  refine XO.move rfl rfl ?_
  refine XO.guardT rfl rfl (rfl) rfl ?_
  refine XO.neq rfl rfl rfl ?_
  refine XO.pickF rfl (rfl) rfl rfl ?_
  refine XO.move rfl rfl ?_
  refine XO.guardT rfl rfl (rfl) rfl ?_
  refine XO.move rfl rfl ?_
  refine XO.guardT rfl rfl (rfl) rfl ?_
  refine XO.neq rfl rfl rfl ?_
  refine XO.pickF rfl (rfl) rfl rfl ?_
  refine XO.move rfl rfl ?_
  refine XO.guardT rfl rfl (rfl) rfl ?_
  refine XO.move rfl rfl ?_
  refine XO.guardT rfl rfl (rfl) rfl ?_
  refine XO.neq rfl rfl rfl ?_
  refine XO.pickF rfl (rfl) rfl rfl ?_
  refine XO.move rfl rfl ?_
  refine XO.guardT rfl rfl (rfl) rfl ?_
  refine XO.move rfl rfl ?_
  refine XO.guardT rfl rfl (rfl) rfl ?_
  refine XO.neq rfl rfl rfl ?_
  refine XO.pickF rfl (rfl) rfl rfl ?_
  refine XO.move rfl rfl ?_
  refine XO.guardT rfl rfl (rfl) rfl ?_
  refine XO.move rfl rfl ?_
  refine XO.guardT rfl rfl (rfl) rfl ?_
  refine XO.neq rfl rfl rfl ?_
  refine XO.pickF rfl (rfl) rfl rfl ?_
  refine XO.move rfl rfl ?_
  refine XO.guardT rfl rfl (rfl) rfl ?_
  refine XO.move rfl rfl ?_
  refine XO.guardT rfl rfl (rfl) rfl ?_
  refine XO.neq rfl rfl rfl ?_
  refine XO.pickF rfl (rfl) rfl rfl ?_
  refine XO.nil ?_
  refine XC.seq2 ?_
  refine XC.condF rfl (rfl) ?_
  refine XC.skip ?_
  refine XC.seq2 ?_
  refine XC.seq ?_
  refine XC.seq ?_
  refine XC.region ?_
  refine XO.move rfl rfl ?_
  refine XO.notB rfl rfl ?_
  refine XO.move rfl rfl ?_
  refine XO.guardT rfl rfl (rfl) rfl ?_
  refine XO.move rfl rfl ?_
  refine XO.pickF rfl (rfl) rfl rfl ?_
  refine XO.move rfl rfl ?_
  refine XO.guardT rfl rfl (rfl) rfl ?_
  refine XO.move rfl rfl ?_
  refine XO.guardT rfl rfl (rfl) rfl ?_
  refine XO.notB rfl rfl ?_
  refine XO.pickF rfl (rfl) rfl rfl ?_
  refine XO.move rfl rfl ?_
  refine XO.guardT rfl rfl (rfl) rfl ?_
  refine XO.move rfl rfl ?_
  refine XO.pickF rfl (rfl) rfl rfl ?_
  refine XO.move rfl rfl ?_
  refine XO.guardT rfl rfl (rfl) rfl ?_
  refine XO.move rfl rfl ?_
  refine XO.guardT rfl rfl (rfl) rfl ?_
  refine XO.notB rfl rfl ?_
  refine XO.pickF rfl (rfl) rfl rfl ?_
  refine XO.move rfl rfl ?_
  refine XO.guardT rfl rfl (rfl) rfl ?_
  refine XO.move rfl rfl ?_
  refine XO.pickF rfl (rfl) rfl rfl ?_
  refine XO.move rfl rfl ?_
  refine XO.guardT rfl rfl (rfl) rfl ?_
  refine XO.move rfl rfl ?_
  refine XO.guardT rfl rfl (rfl) rfl ?_
  refine XO.notB rfl rfl ?_
  refine XO.pickF rfl (rfl) rfl rfl ?_
  refine XO.move rfl rfl ?_
  refine XO.guardT rfl rfl (rfl) rfl ?_
  refine XO.move rfl rfl ?_
  refine XO.guardT rfl rfl (rfl) rfl ?_
  refine XO.lenS (ts := #[]) rfl Try.underlying25 rfl ?_
  refine XO.guardT rfl rfl (rfl) rfl ?_
  refine XO.neq rfl rfl rfl ?_
  refine XO.pickF rfl (rfl) rfl rfl ?_
  refine XO.move rfl rfl ?_
  refine XO.guardT rfl rfl (rfl) rfl ?_
  refine XO.move rfl rfl ?_
  refine XO.guardT rfl rfl (rfl) rfl ?_
  refine XO.notB rfl rfl ?_
  refine XO.pickF rfl (rfl) rfl rfl ?_
  refine XO.move rfl rfl ?_
  refine XO.guardT rfl rfl (rfl) rfl ?_
  refine XO.move rfl rfl ?_
  refine XO.guardT rfl rfl (rfl) rfl ?_
  refine XO.notB rfl rfl ?_
  refine XO.pickF rfl (rfl) rfl rfl ?_
  refine XO.move rfl rfl ?_
  refine XO.guardT rfl rfl (rfl) rfl ?_
  refine XO.move rfl rfl ?_
  refine XO.pickF rfl (rfl) rfl rfl ?_
  refine XO.move rfl rfl ?_
  refine XO.guardT rfl rfl (rfl) rfl ?_
  refine XO.buildSlice rfl Try.underlying40 ty_4 ze_4 rfl rfl rfl (fun b201 => ?_)
  refine XO.publish 0 rfl rfl rfl (fun HP201 oP201 hleP201 hbP201 hoP201 => ?_)
  have hsl201 := SlR.lit (ρ := boolR) (l := [true]) hbP201 hoP201 (RowsR.one1 rfl)
  replace hsl39 := hsl39.mono hleP201
  replace hsl40 := hsl40.mono hleP201
  replace hsl41 := hsl41.mono hleP201
  replace hsl42 := hsl42.mono hleP201
  replace hsl43 := hsl43.mono hleP201
  replace hsl44 := hsl44.mono hleP201
  replace hsl45 := hsl45.mono hleP201
  replace hsl46 := hsl46.mono hleP201
  replace hsl47 := hsl47.mono hleP201
  replace hsl48 := hsl48.mono hleP201
  replace h51 := h51.mono hleP201
  replace h57 := h57.mono hleP201
  replace h63 := h63.mono hleP201
  replace i63 := i63.mono hleP201
  replace h77 := h77.mono hleP201
  replace h89 := h89.mono hleP201
  replace h94 := h94.mono hleP201
  replace hsl99 := hsl99.mono hleP201
  replace hsl100 := hsl100.mono hleP201
  replace h101 := h101.mono hleP201
  replace hsl106 := hsl106.mono hleP201
  replace hsl107 := hsl107.mono hleP201
  replace hsl108 := hsl108.mono hleP201
  replace h109 := h109.mono hleP201
  refine XO.guardT rfl rfl (rfl) rfl ?_
  refine XO.buildSlice rfl Try.underlying40 ty_4 ze_4 rfl rfl rfl (fun b202 => ?_)
  refine XO.publish 0 rfl rfl rfl (fun HP202 oP202 hleP202 hbP202 hoP202 => ?_)
  have hsl202 := SlR.lit (ρ := boolR) (l := [true, true]) hbP202 hoP202 (RowsR.cons1 (cs := [_]) rfl (RowsR.one1 rfl))
  replace hsl39 := hsl39.mono hleP202
  replace hsl40 := hsl40.mono hleP202
  replace hsl41 := hsl41.mono hleP202
  replace hsl42 := hsl42.mono hleP202
  replace hsl43 := hsl43.mono hleP202
  replace hsl44 := hsl44.mono hleP202
  replace hsl45 := hsl45.mono hleP202
  replace hsl46 := hsl46.mono hleP202
  replace hsl47 := hsl47.mono hleP202
  replace hsl48 := hsl48.mono hleP202
  replace h51 := h51.mono hleP202
  replace h57 := h57.mono hleP202
  replace h63 := h63.mono hleP202
  replace i63 := i63.mono hleP202
  replace h77 := h77.mono hleP202
  replace h89 := h89.mono hleP202
  replace h94 := h94.mono hleP202
  replace hsl99 := hsl99.mono hleP202
  replace hsl100 := hsl100.mono hleP202
  replace h101 := h101.mono hleP202
  replace hsl106 := hsl106.mono hleP202
  replace hsl107 := hsl107.mono hleP202
  replace hsl108 := hsl108.mono hleP202
  replace h109 := h109.mono hleP202
  replace hsl201 := hsl201.mono hleP202
  refine XO.guardT rfl rfl (rfl) rfl ?_
  refine XO.buildSlice rfl Try.underlying22 ty_40 ze_40 rfl rfl rfl (fun b203 => ?_)
  refine XO.publish 0 rfl rfl rfl (fun HP203 oP203 hleP203 hbP203 hoP203 => ?_)
  replace hsl39 := hsl39.mono hleP203
  replace hsl40 := hsl40.mono hleP203
  replace hsl41 := hsl41.mono hleP203
  replace hsl42 := hsl42.mono hleP203
  replace hsl43 := hsl43.mono hleP203
  replace hsl44 := hsl44.mono hleP203
  replace hsl45 := hsl45.mono hleP203
  replace hsl46 := hsl46.mono hleP203
  replace hsl47 := hsl47.mono hleP203
  replace hsl48 := hsl48.mono hleP203
  replace h51 := h51.mono hleP203
  replace h57 := h57.mono hleP203
  replace h63 := h63.mono hleP203
  replace i63 := i63.mono hleP203
  replace h77 := h77.mono hleP203
  replace h89 := h89.mono hleP203
  replace h94 := h94.mono hleP203
  replace hsl99 := hsl99.mono hleP203
  replace hsl100 := hsl100.mono hleP203
  replace h101 := h101.mono hleP203
  replace hsl106 := hsl106.mono hleP203
  replace hsl107 := hsl107.mono hleP203
  replace hsl108 := hsl108.mono hleP203
  replace h109 := h109.mono hleP203
  replace hsl201 := hsl201.mono hleP203
  replace hsl202 := hsl202.mono hleP203
  have hsl203 := SlR.lit (ρ := tbR) (l := [[true], [true, true]]) hbP203 hoP203 (RowsR.cons1 (cs := [_]) ⟨_, _, rfl, hsl201⟩ (RowsR.one1 ⟨_, _, rfl, hsl202⟩))
  refine XO.guardT rfl rfl (rfl) rfl ?_
  refine XO.callV rfl (check_fn _ _ [[true], [true, true]] _ hsl203 (by decide)) rfl ?_
  refine XO.guardT rfl rfl (rfl) rfl ?_
  refine XO.neq rfl rfl rfl ?_
  refine XO.pickF rfl (rfl) rfl rfl ?_
  refine XO.move rfl rfl ?_
  refine XO.guardT rfl rfl (decide_eq_false (by decide +kernel)) rfl ?_
  refine XO.makeRow (ρ := tbR) (n := 65) ([] : List Bool) rfl rfl Try.underlying22 ty_40 ze_40 rfl by_40 (by decide) ⟨none, 0, rfl, SlR.nil0 _ _⟩ rfl (fun p208 c208 hacc208 => ?_)
  refine XO.guardT rfl rfl (decide_eq_false (by decide +kernel)) rfl ?_
  refine XO.publishA 0 rfl hacc208 rfl (fun HQ14 hleQ14 hsQ14 => ?_)
  replace hsl39 := hsl39.mono hleQ14
  replace hsl40 := hsl40.mono hleQ14
  replace hsl41 := hsl41.mono hleQ14
  replace hsl42 := hsl42.mono hleQ14
  replace hsl43 := hsl43.mono hleQ14
  replace hsl44 := hsl44.mono hleQ14
  replace hsl45 := hsl45.mono hleQ14
  replace hsl46 := hsl46.mono hleQ14
  replace hsl47 := hsl47.mono hleQ14
  replace hsl48 := hsl48.mono hleQ14
  replace h51 := h51.mono hleQ14
  replace h57 := h57.mono hleQ14
  replace h63 := h63.mono hleQ14
  replace i63 := i63.mono hleQ14
  replace h77 := h77.mono hleQ14
  replace h89 := h89.mono hleQ14
  replace h94 := h94.mono hleQ14
  replace hsl99 := hsl99.mono hleQ14
  replace hsl100 := hsl100.mono hleQ14
  replace h101 := h101.mono hleQ14
  replace hsl106 := hsl106.mono hleQ14
  replace hsl107 := hsl107.mono hleQ14
  replace hsl108 := hsl108.mono hleQ14
  replace h109 := h109.mono hleQ14
  replace hsl201 := hsl201.mono hleQ14
  replace hsl202 := hsl202.mono hleQ14
  replace hsl203 := hsl203.mono hleQ14
  refine XO.callV rfl (check_fn _ _ (List.replicate 65 []) _ hsQ14 (by decide +kernel)) rfl ?_
  refine XO.guardT rfl rfl (decide_eq_false (by decide +kernel)) rfl ?_
  refine XO.neq rfl rfl rfl ?_
  refine XO.pickF rfl (decide_eq_false (by decide +kernel)) rfl rfl ?_
  refine XO.move rfl rfl ?_
  refine XO.guardT rfl rfl (decide_eq_false (by decide +kernel)) rfl ?_
  refine XO.move rfl rfl ?_
  refine XO.guardT rfl rfl (decide_eq_false (by decide +kernel)) rfl ?_
  refine XO.callV rfl (check_fn _ _ tbAll _ hsl41 (by decide)) rfl ?_
  refine XO.guardT rfl rfl (decide_eq_false (by decide +kernel)) rfl ?_
  refine XO.neq rfl rfl rfl ?_
  refine XO.pickF rfl (decide_eq_false (by decide +kernel)) rfl rfl ?_
  refine XO.nil ?_
  refine XC.seq2 ?_
  refine XC.condF rfl (decide_eq_false (by decide +kernel)) ?_
  refine XC.skip ?_
  refine XC.seq2 ?_
  refine XC.seq ?_
  refine XC.region ?_
  refine XO.move rfl rfl ?_
  refine XO.buildArr Try.underlying41 ty_3 ze_41 rfl rfl rfl ?_
  refine XO.buildArr Try.underlying41 ty_3 ze_41 rfl rfl rfl ?_
  refine XO.buildArr Try.underlying41 ty_3 ze_41 rfl rfl rfl ?_
  refine XO.buildSlice rfl Try.underlying25 ty_41 ze_41 rfl rfl rfl (fun b221 => ?_)
  refine XO.publish 0 rfl rfl rfl (fun HP221 oP221 hleP221 hbP221 hoP221 => ?_)
  have hsl221 := SlR.lit (ρ := pairR) (l := [(0, 0), (0, 1), (1, 0)]) hbP221 hoP221 (RowsR.cons1 (cs := [_, _]) rfl (RowsR.cons1 (cs := [_, _]) rfl (RowsR.one1 rfl)))
  replace hsl39 := hsl39.mono hleP221
  replace hsl40 := hsl40.mono hleP221
  replace hsl41 := hsl41.mono hleP221
  replace hsl42 := hsl42.mono hleP221
  replace hsl43 := hsl43.mono hleP221
  replace hsl44 := hsl44.mono hleP221
  replace hsl45 := hsl45.mono hleP221
  replace hsl46 := hsl46.mono hleP221
  replace hsl47 := hsl47.mono hleP221
  replace hsl48 := hsl48.mono hleP221
  replace h51 := h51.mono hleP221
  replace h57 := h57.mono hleP221
  replace h63 := h63.mono hleP221
  replace i63 := i63.mono hleP221
  replace h77 := h77.mono hleP221
  replace h89 := h89.mono hleP221
  replace h94 := h94.mono hleP221
  replace hsl99 := hsl99.mono hleP221
  replace hsl100 := hsl100.mono hleP221
  replace h101 := h101.mono hleP221
  replace hsl106 := hsl106.mono hleP221
  replace hsl107 := hsl107.mono hleP221
  replace hsl108 := hsl108.mono hleP221
  replace h109 := h109.mono hleP221
  replace hsl201 := hsl201.mono hleP221
  replace hsl202 := hsl202.mono hleP221
  replace hsl203 := hsl203.mono hleP221
  replace hsQ14 := hsQ14.mono hleP221
  refine XO.callV rfl (same_fn _ _ _ _ [(0, 0), (0, 1), (1, 0)] [(0, 0), (0, 1), (1, 0)] _ h51 hsl221 (by decide)) rfl ?_
  refine XO.move rfl rfl ?_
  refine XO.guardT rfl rfl (rfl) rfl ?_
  refine XO.move rfl rfl ?_
  refine XO.guardT rfl rfl (rfl) rfl ?_
  refine XO.buildSlice rfl Try.underlying29 ty_3 ze_3 rfl rfl rfl (fun b225 => ?_)
  refine XO.publish 0 rfl rfl rfl (fun HP225 oP225 hleP225 hbP225 hoP225 => ?_)
  have hsl225 := SlR.lit (ρ := (intR .i64)) (l := [0]) hbP225 hoP225 (RowsR.one1 rfl)
  replace hsl39 := hsl39.mono hleP225
  replace hsl40 := hsl40.mono hleP225
  replace hsl41 := hsl41.mono hleP225
  replace hsl42 := hsl42.mono hleP225
  replace hsl43 := hsl43.mono hleP225
  replace hsl44 := hsl44.mono hleP225
  replace hsl45 := hsl45.mono hleP225
  replace hsl46 := hsl46.mono hleP225
  replace hsl47 := hsl47.mono hleP225
  replace hsl48 := hsl48.mono hleP225
  replace h51 := h51.mono hleP225
  replace h57 := h57.mono hleP225
  replace h63 := h63.mono hleP225
  replace i63 := i63.mono hleP225
  replace h77 := h77.mono hleP225
  replace h89 := h89.mono hleP225
  replace h94 := h94.mono hleP225
  replace hsl99 := hsl99.mono hleP225
  replace hsl100 := hsl100.mono hleP225
  replace h101 := h101.mono hleP225
  replace hsl106 := hsl106.mono hleP225
  replace hsl107 := hsl107.mono hleP225
  replace hsl108 := hsl108.mono hleP225
  replace h109 := h109.mono hleP225
  replace hsl201 := hsl201.mono hleP225
  replace hsl202 := hsl202.mono hleP225
  replace hsl203 := hsl203.mono hleP225
  replace hsQ14 := hsQ14.mono hleP225
  replace hsl221 := hsl221.mono hleP225
  refine XO.guardT rfl rfl (rfl) rfl ?_
  refine XO.callV rfl (sameInts_fn _ _ _ _ [0] [0] _ h63 hsl225 (by decide)) rfl ?_
  refine XO.pickT rfl (rfl) rfl rfl ?_
  refine XO.move rfl rfl ?_
  refine XO.guardT rfl rfl (rfl) rfl ?_
  refine XO.move rfl rfl ?_
  refine XO.guardT rfl rfl (rfl) rfl ?_
  refine XO.buildSlice rfl Try.underlying29 ty_3 ze_3 rfl rfl rfl (fun b230 => ?_)
  refine XO.publish 0 rfl rfl rfl (fun HP230 oP230 hleP230 hbP230 hoP230 => ?_)
  have hsl230 := SlR.lit (ρ := (intR .i64)) (l := [0]) hbP230 hoP230 (RowsR.one1 rfl)
  replace hsl39 := hsl39.mono hleP230
  replace hsl40 := hsl40.mono hleP230
  replace hsl41 := hsl41.mono hleP230
  replace hsl42 := hsl42.mono hleP230
  replace hsl43 := hsl43.mono hleP230
  replace hsl44 := hsl44.mono hleP230
  replace hsl45 := hsl45.mono hleP230
  replace hsl46 := hsl46.mono hleP230
  replace hsl47 := hsl47.mono hleP230
  replace hsl48 := hsl48.mono hleP230
  replace h51 := h51.mono hleP230
  replace h57 := h57.mono hleP230
  replace h63 := h63.mono hleP230
  replace i63 := i63.mono hleP230
  replace h77 := h77.mono hleP230
  replace h89 := h89.mono hleP230
  replace h94 := h94.mono hleP230
  replace hsl99 := hsl99.mono hleP230
  replace hsl100 := hsl100.mono hleP230
  replace h101 := h101.mono hleP230
  replace hsl106 := hsl106.mono hleP230
  replace hsl107 := hsl107.mono hleP230
  replace hsl108 := hsl108.mono hleP230
  replace h109 := h109.mono hleP230
  replace hsl201 := hsl201.mono hleP230
  replace hsl202 := hsl202.mono hleP230
  replace hsl203 := hsl203.mono hleP230
  replace hsQ14 := hsQ14.mono hleP230
  replace hsl221 := hsl221.mono hleP230
  replace hsl225 := hsl225.mono hleP230
  refine XO.guardT rfl rfl (rfl) rfl ?_
  refine XO.callV rfl (sameInts_fn _ _ _ _ [0] [0] _ i63 hsl230 (by decide)) rfl ?_
  refine XO.pickT rfl (rfl) rfl rfl ?_
  refine XO.move rfl rfl ?_
  refine XO.guardT rfl rfl (rfl) rfl ?_
  refine XO.move rfl rfl ?_
  refine XO.guardT rfl rfl (rfl) rfl ?_
  refine XO.buildSlice rfl Try.underlying29 ty_3 ze_3 rfl rfl rfl (fun b235 => ?_)
  refine XO.publish 0 rfl rfl rfl (fun HP235 oP235 hleP235 hbP235 hoP235 => ?_)
  have hsl235 := SlR.lit (ρ := (intR .i64)) (l := [0]) hbP235 hoP235 (RowsR.one1 rfl)
  replace hsl39 := hsl39.mono hleP235
  replace hsl40 := hsl40.mono hleP235
  replace hsl41 := hsl41.mono hleP235
  replace hsl42 := hsl42.mono hleP235
  replace hsl43 := hsl43.mono hleP235
  replace hsl44 := hsl44.mono hleP235
  replace hsl45 := hsl45.mono hleP235
  replace hsl46 := hsl46.mono hleP235
  replace hsl47 := hsl47.mono hleP235
  replace hsl48 := hsl48.mono hleP235
  replace h51 := h51.mono hleP235
  replace h57 := h57.mono hleP235
  replace h63 := h63.mono hleP235
  replace i63 := i63.mono hleP235
  replace h77 := h77.mono hleP235
  replace h89 := h89.mono hleP235
  replace h94 := h94.mono hleP235
  replace hsl99 := hsl99.mono hleP235
  replace hsl100 := hsl100.mono hleP235
  replace h101 := h101.mono hleP235
  replace hsl106 := hsl106.mono hleP235
  replace hsl107 := hsl107.mono hleP235
  replace hsl108 := hsl108.mono hleP235
  replace h109 := h109.mono hleP235
  replace hsl201 := hsl201.mono hleP235
  replace hsl202 := hsl202.mono hleP235
  replace hsl203 := hsl203.mono hleP235
  replace hsQ14 := hsQ14.mono hleP235
  replace hsl221 := hsl221.mono hleP235
  replace hsl225 := hsl225.mono hleP235
  replace hsl230 := hsl230.mono hleP235
  refine XO.guardT rfl rfl (rfl) rfl ?_
  refine XO.callV rfl (sameInts_fn _ _ _ _ [0] [0] _ h77 hsl235 (by decide)) rfl ?_
  refine XO.pickT rfl (rfl) rfl rfl ?_
  refine XO.move rfl rfl ?_
  refine XO.guardT rfl rfl (rfl) rfl ?_
  refine XO.move rfl rfl ?_
  refine XO.guardT rfl rfl (rfl) rfl ?_
  refine XO.buildSlice rfl Try.underlying29 ty_3 ze_3 rfl rfl rfl (fun b240 => ?_)
  refine XO.publish 0 rfl rfl rfl (fun HP240 oP240 hleP240 hbP240 hoP240 => ?_)
  have hsl240 := SlR.lit (ρ := (intR .i64)) (l := [0, 1]) hbP240 hoP240 (RowsR.cons1 (cs := [_]) rfl (RowsR.one1 rfl))
  replace hsl39 := hsl39.mono hleP240
  replace hsl40 := hsl40.mono hleP240
  replace hsl41 := hsl41.mono hleP240
  replace hsl42 := hsl42.mono hleP240
  replace hsl43 := hsl43.mono hleP240
  replace hsl44 := hsl44.mono hleP240
  replace hsl45 := hsl45.mono hleP240
  replace hsl46 := hsl46.mono hleP240
  replace hsl47 := hsl47.mono hleP240
  replace hsl48 := hsl48.mono hleP240
  replace h51 := h51.mono hleP240
  replace h57 := h57.mono hleP240
  replace h63 := h63.mono hleP240
  replace i63 := i63.mono hleP240
  replace h77 := h77.mono hleP240
  replace h89 := h89.mono hleP240
  replace h94 := h94.mono hleP240
  replace hsl99 := hsl99.mono hleP240
  replace hsl100 := hsl100.mono hleP240
  replace h101 := h101.mono hleP240
  replace hsl106 := hsl106.mono hleP240
  replace hsl107 := hsl107.mono hleP240
  replace hsl108 := hsl108.mono hleP240
  replace h109 := h109.mono hleP240
  replace hsl201 := hsl201.mono hleP240
  replace hsl202 := hsl202.mono hleP240
  replace hsl203 := hsl203.mono hleP240
  replace hsQ14 := hsQ14.mono hleP240
  replace hsl221 := hsl221.mono hleP240
  replace hsl225 := hsl225.mono hleP240
  replace hsl230 := hsl230.mono hleP240
  replace hsl235 := hsl235.mono hleP240
  refine XO.guardT rfl rfl (rfl) rfl ?_
  refine XO.callV rfl (sameInts_fn _ _ _ _ [0, 1] [0, 1] _ h89 hsl240 (by decide)) rfl ?_
  refine XO.pickT rfl (rfl) rfl rfl ?_
  refine XO.assign rfl rfl ?_
  refine XO.nil ?_
  refine XC.seq2 ?_
  refine XC.ret ?_
  refine ⟨rfl, _, [], rfl, (by repeat (first | exact List.Sublist.refl _ | apply List.Sublist.cons)), RetR.mk ?_⟩
  rfl

end Go.Proofs
