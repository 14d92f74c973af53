/- Short of the reference: a text of at most eight bytes. -/
import Derived.Test.YtjdknaipmboekaaDoorSha7
import Derived.Test.YtjdknaipmboekaaDoorDrawText
import Derived.WalkKit
import Derived.WalkSpells
import Derived.WalkLawsBesides
import Derived.Lib.Hide
namespace Go.Proofs.YtjdknaipmboekaaDoor
open Go.RowKit

theorem sShort_text (s : ByteArray) (w : World) (hs : s.size ≤ 2097152) :
    Calls Tryd.prog 54 #[.string s] w fun e w' => ∃ v, e = .returned v ∧ IsText 8 v ∧ Below w.heap.size w w' := by
  have HS : Hid (Calls Tryd.prog 65 #[.string s] w fun e w' => e = .returned (.string ⟨(shaL s.data.toList).toArray⟩) ∧ Below w.heap.size w w') := sSha_any s w hs
  have h8 : 8 ≤ (shaL s.data.toList).length := by rw [shaL_len]; decide
  have HC : Hid ((((⟨(shaL s.data.toList).toArray⟩ : ByteArray).extract 0 8)).size ≤ 8) := Lib.hid (by rw [ByteArray.size_extract]; omega)
  generalize shaL s.data.toList = L at *
  go_enter Tryd.func54, Tryd.ntmps54
  go_wp2_with (go_at_call 65; (with_reducible refine HS.out.mono ?_); rintro e w1 ⟨rfl, hb⟩)
  go_ret
  exact ⟨_, rfl, ⟨_, rfl, HC.out⟩, hb⟩
end Go.Proofs.YtjdknaipmboekaaDoor
