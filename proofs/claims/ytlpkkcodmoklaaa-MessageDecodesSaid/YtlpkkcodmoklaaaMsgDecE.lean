/- The walk of the reading of a message: every kind. -/
import Derived.Test.YtlpkkcodmoklaaaMsgDecC
import Derived.Test.YtlpkkcodmoklaaaMsgDecD
namespace Go.Proofs.Ytlpkkcodmoklaaa
set_option linter.unusedVariables false
set_option linter.unusedSimpArgs false
open Go.RowKit
attribute [local go_sem] bs_size bs_get bs_append bs_extract bs_toList

theorem message_any (rb : Nat) (t : List UInt8) (s : Int × Bool) (w : World) (h : Rdr rb t s w) (ht : t.length ≤ 100000) :
    Calls Try.prog 86 #[.pointer (some ⟨rb, 0, none⟩)] w fun e w' => MsgOut w rb t s e w' := by
  cases k1 : (stepI t s).1 == 1
  · cases k2 : carB (stepI t s).1
    · exact message_none rb t s w h ht k1 k2
    · exact message_auth rb t s w h ht k1 k2
  · have k2 : carB (stepI t s).1 = false := by
      have : (stepI t s).1 = 1 := by simpa using k1
      rw [this]; rfl
    exact message_rep rb t s w h ht k1 k2
end Go.Proofs.Ytlpkkcodmoklaaa
