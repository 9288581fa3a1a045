/- The runner's counter, kind 6. -/
import Derived.Test.YtiogpainajokkaaCnt6a
import Derived.Test.YtiogpainajokkaaCnt6b
import Derived.Test.YtiogpainajokkaaCnt6c
import Derived.Test.YtiogpainajokkaaCnt6d
namespace Go.Proofs.Ytiogpainajokkaa
open Go.RowKit
theorem counter_6 (w : World) (R B : Nat) (ins : List Int) (now : Int) (rise fall : Bool) (b : GBlock) (pv : Int) (h : RunSt w R B ins now rise fall b) (hk : b.kind = 6) (hi : ins.length = 5) (hp : ins.getD 4 0 = pv) (v1 : -2147483648 ≤ b.cv) (v2 : b.cv ≤ 2147483647) :
    Calls Try.prog 158 #[.pointer (some ⟨R, 0, none⟩)] w (CntPost w R B ins now rise fall (counterB b rise ins pv)) := by
  cases h2 : onB ins 2 <;> cases h3 : onB ins 3
  · exact counter_6ff w R B ins now rise fall b pv h hk hi hp h2 h3 v1 v2
  · exact counter_6ft w R B ins now rise fall b pv h hk hi hp h2 h3 v1 v2
  · exact counter_6tf w R B ins now rise fall b pv h hk hi hp h2 h3 v1 v2
  · exact counter_6tt w R B ins now rise fall b pv h hk hi hp h2 h3 v1 v2
end Go.Proofs.Ytiogpainajokkaa

