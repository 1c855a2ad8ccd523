/- The plain content of the example of chapter 17. -/
import Derived.Test.YtlblfblkallnhaaGreatDoorTbPL
namespace Go.Proofs.YtlblfblkallnhaaGreatDoor
set_option linter.unusedVariables false
set_option linter.unusedSimpArgs false
open Go.RowKit
def exT : List UInt8 := [116, 97, 98, 108, 101, 32, 51, 32, 49, 10, 114, 111, 117, 116, 101, 32, 115, 49, 45, 115, 50, 32, 48, 32, 45, 49, 32, 48, 32, 50, 48, 48, 48, 48, 10, 112, 97, 116, 104, 32, 49, 44, 48, 44, 49, 10, 115, 101, 99, 116, 105, 111, 110, 115, 32, 49, 10]
def exT2 : List UInt8 := [116, 97, 98, 108, 101, 32, 51, 32, 49, 10, 114, 111, 117, 116, 101, 32, 115, 49, 45, 115, 50, 32, 48, 32, 45, 49, 32, 48, 32, 50, 48, 48, 48, 48, 10, 112, 97, 116, 104, 32, 49, 44, 48, 10]
def exT3 : List UInt8 := [116, 97, 98, 108, 101, 32, 51, 32, 49, 10, 112, 111, 105, 110, 116, 32, 50, 32, 53, 10]
def exTab : Tab := ⟨[⟨[115, 49, 45, 115, 50], 0, -1, 0, 20000, [⟨1, 0, 1⟩], [], [1], [], [], [], [], [], []⟩], [], [], 3, 1⟩
theorem ex_prt : prtT exTab = (exT, 0) := by decide +kernel
theorem ex_par : parT exT = (exTab, 0, 0) := by decide +kernel
theorem ex_par2 : (parT exT2).2 = (3, 4) := by decide +kernel
theorem ex_par3 : (parT exT3).2 = (0, 1) := by decide +kernel
end Go.Proofs.YtlblfblkallnhaaGreatDoor
