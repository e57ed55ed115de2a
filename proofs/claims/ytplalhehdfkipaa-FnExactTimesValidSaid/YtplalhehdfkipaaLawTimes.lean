import Derived.Test.YtplalhehdfkipaaInts
import Derived.Test.YtplalhehdfkipaaTimes
namespace Go.Proofs.Ytplalhehdfkipaa
open Go.RowKit

set_option maxHeartbeats 400000 in
theorem lawTimes (v : Value) (l : List Int) (w : World) (hv : Ints w v l) :
    Calls Try.prog 3 #[v] w fun e w' => e = .returned (.bool true) ∧ Below w.heap.size w w' := by
  obtain ⟨A, c, rfl, hlc, hc, hrd⟩ := hv.open_
  by_cases hbig : (1048576 : Int) < (l.length : Int)
  · go_enter Try.func3, Try.ntmps3
    go_wp2
    go_ret
    exact ⟨rfl, Below.refl _ _⟩
  · go_enter Try.func3, Try.ntmps3
    go_wp2_with fail
    refine (toIntS_any _ _ _ hv (by omega)).mono ?_; rintro e w1 ⟨v1, rfl, o1, b1⟩
    go_wp2_with fail
    refine (specTimes_any _ _ _ o1.ints).mono ?_; rintro e w1 ⟨rfl, rfl⟩
    go_wp2_with fail
    refine (toIntS_any _ _ _ (hv.bel b1) (by omega)).mono ?_; rintro e w2 ⟨v2, rfl, o2, b2⟩
    go_wp2_with fail
    refine (implTimes_any _ _ _ o2.ints).mono ?_; rintro e w2 ⟨rfl, rfl⟩
    go_wp2_with fail
    refine (toIntS_any _ _ _ (((hv.bel b1).bel b2)) (by omega)).mono ?_; rintro e w3 ⟨v3, rfl, o3, b3⟩
    go_wp2_with fail
    refine (eqIntS_any _ _ _ _ _ (o2.ints.bel b3) o3.ints).mono ?_; rintro e w4 ⟨rfl, b4⟩
    have he := eqL_self l
    go_wp2
    go_ret
    exact ⟨rfl, bel_trans (bel_trans (bel_trans b1 b2) b3) b4⟩
end Go.Proofs.Ytplalhehdfkipaa
