/- The door: the table of nibbles lies where the row says, and tells what four moves make. -/
import Derived.Test.YtlinaloemppniaaDoorStep
import Derived.Test.YtlinaloemppniaaDoorRows
import Derived.ProofKit
import Derived.LaidMore
import Derived.OpenShut
import Derived.Stop.Joined
namespace Go.Proofs.YtlinaloemppniaaDoor.Laid
open Go.ChangeShapes Go.WideShapes Go.ChangeAt Go.WideMaps Go.WideElems Go.RowKit Go.Proofs.YtlinaloemppniaaDoor.Crc Go.Proofs.YtlinaloemppniaaDoor.CrcMath Go.Proofs.YtlinaloemppniaaDoor.PAll
set_option linter.unusedVariables false
def laid1 {H : Type} : List (String × DataW H) := [("winkle/crc.quarter", Rows.laid_winkle_crc_quarter)]
theorem gQ : Tryd.prog.globalNamed "winkle/crc.quarter" = some 0 := by kernel_rfl
theorem tQ : (Tryd.prog.globals[0]?).map (·.type) = some 34 := by kernel_rfl
theorem door_met (os : Os) (args : Array Value) : laidMetH Tryd.prog laid1 ((World.doorLaid Tryd.prog 400 os).forCall (fun _ _ => 0) ⟨#[], args, []⟩).memory :=
  laidMetH_of_parts3 (fuel := 8) (laidMet_of_run' 8 (by kernel_rfl) (by kernel_rfl)) (by kernel_rfl) (by kernel_rfl)
def tabI : List Int := [0, 498536548, 997073096, 651767980, 1994146192, 1802195444, 1303535960, 1342533948, 3988292384, 4027552580, 3604390888, 3412177804, 2607071920, 2262029012, 2685067896, 3183342108]
theorem tabI_bits : ∀ i : Fin 16, tabI[i.1]? = some (I (mvn 4 (BitVec.ofNat 32 i.1))) := by decide +kernel
theorem laid_eq {H : Type} : (Rows.laid_winkle_crc_quarter : DataW H) = .agg (tabI.map fun x => .lit (.int .u32 x)) := rfl
theorem tab {W : World} (h : laidMetH Tryd.prog laid1 W) : Tab W := by
  rw [MakeChecks.laidMetH_plain _ _ _ (by kernel_rfl)] at h
  obtain ⟨ps, ⟨g0, t0, cs0, f0, p0, q0, hg0, ht0, hv0, hd0, hrest⟩, h2⟩ := h
  obtain rfl := Option.some.inj (gQ.symm.trans hg0)
  obtain rfl := Option.some.inj (tQ.symm.trans ht0)
  obtain ⟨xs, m1, hc, hx1, hlen, hn, hel⟩ := DataW.trod_array Tryd.underlying34 hd0
  have c23 : Tryd.prog.cellsOf 23 = 1 := by kernel_rfl
  intro i hi
  have h1 := hel i hi
  rw [c23, Nat.mul_one, List.getElem?_eq_getElem (by omega)] at h1
  obtain ⟨k, e1, e2, _⟩ := DataW.trod_int Tryd.underlying23 h1
  have e3 : (xs.map (·.1))[i]? = some (.lit (.int .u32 k)) := by
    rw [List.getElem?_map, List.getElem?_eq_getElem (by omega)]
    simp [e2]
  simp only [Prod.mk.injEq, laid_eq, DataW.agg.injEq] at hx1
  rw [← hx1.1, List.getElem?_map, tabI_bits ⟨i, hi⟩] at e3
  simp only [Option.map_some, Option.some.injEq, DataW.lit.injEq, Lit.int.injEq, true_and] at e3
  rw [World.var?_cell hg0 hv0 i]
  have e4 : cs0.toList[i]? = some (.int .u32 k) := by
    have := congrArg (fun l => l[0]?) e1
    simpa [List.getElem?_take, List.getElem?_drop] using this
  rw [e3]
  simpa using e4
end Go.Proofs.YtlinaloemppniaaDoor.Laid
