/-
  The law FnVote, walked.
-/
import Derived.Test.YtegofpfhlhfdnaaLawVotes
namespace Go.Proofs.Ytegofpfhlhfdnaa
open Go.RowKit
set_option linter.unusedVariables false
set_option maxRecDepth 100000

set_option maxHeartbeats 1500000 in
theorem lawVote2 (v : Value) (code : List Int) (w : World) (hv : Bytes w v code) :
    Calls Try.prog 7 #[v] w fun e w' => e = .returned (.bool true) ∧ Below w.heap.size w w' := by
  have HV := Lib.hid hv
  obtain ⟨A, c, rfl, hlc, hc, hrd⟩ := hv.open_
  clear hrd hv
  by_cases hbig : (1048576 : Int) < (code.length : Int)
  · go_enter Try.func7, Try.ntmps7
    go_wp2
    go_ret
    exact ⟨rfl, Below.refl _ _⟩
  · go_enter Try.func7, Try.ntmps7
    go_wp2_with fail
    refine (drawVote_any _ _ _ HV.out).mono ?_; rintro e w1 ⟨va, vb, vc, l, m, n, rfl, h1, h2, h3, b1⟩
    have H1 := Lib.hid (And.intro h1 (And.intro h2 (And.intro h3 b1)))
    clear h1 h2 h3 b1
    have HL := Lib.hid (vote_law l m n)
    have HR := Lib.hid (And.intro (vote_rot l m n) (vote_swap l m n))
    have hse := eqL_self (voteR l m n)
    go_wp2_with fail
    refine (implVote_any _ _ _ _ _ _ _ H1.out.1 H1.out.2.1 H1.out.2.2.1).mono ?_
    rintro e w2 ⟨r2, rfl, o2, b2⟩
    have H2 := Lib.hid (And.intro (H1.out.1.bel b2) (And.intro (H1.out.2.1.bel b2) (And.intro (H1.out.2.2.1.bel b2) (And.intro o2 (bel_trans H1.out.2.2.2 b2)))))
    clear b2 o2
    go_wp2_with fail
    refine (specVote_any _ _ _ _ _ _ _ H2.out.1 H2.out.2.1 H2.out.2.2.1).mono ?_
    rintro e w3 ⟨r3, rfl, o3, b3⟩
    have H3 := Lib.hid (And.intro (H2.out.1.bel b3) (And.intro (H2.out.2.1.bel b3) (And.intro (H2.out.2.2.1.bel b3) (And.intro (H2.out.2.2.2.1.bel b3) (And.intro o3 (bel_trans H2.out.2.2.2.2 b3))))))
    clear b3 o3
    go_wp2_with fail
    refine (deInts_any _ _ _ _ _ H3.out.2.2.2.1.ints H3.out.2.2.2.2.1.ints).mono ?_
    rintro e w4 ⟨rfl, b4⟩
    have H4 := Lib.hid (And.intro (H3.out.1.bel b4) (And.intro (H3.out.2.1.bel b4) (And.intro (H3.out.2.2.1.bel b4) (And.intro (H3.out.2.2.2.1.bel b4) (bel_trans H3.out.2.2.2.2.2 b4)))))
    clear b4 H1 H2 H3
    go_wp2_with fail
    refine (implVote_any _ _ _ _ _ _ _ H4.out.2.2.1 H4.out.1 H4.out.2.1).mono ?_
    rw [HR.out.1.1, HR.out.1.2]
    rintro e w5 ⟨r5, rfl, o5, b5⟩
    have H5 := Lib.hid (And.intro (H4.out.1.bel b5) (And.intro (H4.out.2.1.bel b5) (And.intro (H4.out.2.2.1.bel b5) (And.intro (H4.out.2.2.2.1.bel b5) (And.intro o5 (bel_trans H4.out.2.2.2.2 b5))))))
    clear b5 o5
    go_wp2_with fail
    refine (implVote_any _ _ _ _ _ _ _ H5.out.2.1 H5.out.1 H5.out.2.2.1).mono ?_
    rw [HR.out.2.1, HR.out.2.2]
    rintro e w6 ⟨r6, rfl, o6, b6⟩
    have H6 := Lib.hid (And.intro (H5.out.1.bel b6) (And.intro (H5.out.2.1.bel b6) (And.intro (H5.out.2.2.1.bel b6) (And.intro (H5.out.2.2.2.1.bel b6) (And.intro (H5.out.2.2.2.2.1.bel b6) (And.intro o6 (bel_trans H5.out.2.2.2.2.2 b6)))))))
    clear b6 o6 H4 H5
    obtain ⟨f, hf⟩ : ∃ f, f = faulty l m n := ⟨_, rfl⟩
    have HF := Lib.hid hf
    go_wp2_with fail
    refine (implFaulty_any _ _ _ _ _ _ _ H6.out.1 H6.out.2.1 H6.out.2.2.1).mono ?_
    rw [← HF.out]
    rintro e w7 ⟨rfl, b7⟩
    have H7 := Lib.hid (And.intro (H6.out.1.bel b7) (And.intro (H6.out.2.1.bel b7) (And.intro (H6.out.2.2.1.bel b7) (And.intro (H6.out.2.2.2.1.bel b7) (And.intro (H6.out.2.2.2.2.1.bel b7) (And.intro (H6.out.2.2.2.2.2.1.bel b7) (bel_trans H6.out.2.2.2.2.2.2 b7)))))))
    clear b7 H6 hf
    go_wp2_with fail
    refine (deInts_any _ _ _ _ _ H7.out.2.2.2.2.1.ints H7.out.2.2.2.1.ints).mono ?_
    rintro e w8 ⟨rfl, b8⟩
    have H8 := Lib.hid (And.intro (H7.out.1.bel b8) (And.intro (H7.out.2.1.bel b8) (And.intro (H7.out.2.2.2.1.bel b8) (And.intro (H7.out.2.2.2.2.2.1.bel b8) (bel_trans H7.out.2.2.2.2.2.2 b8)))))
    clear b8 H7
    go_wp2_with fail
    refine (deInts_any _ _ _ _ _ H8.out.2.2.2.1.ints H8.out.2.2.1.ints).mono ?_
    rintro e w9 ⟨rfl, b9⟩
    have H9 := Lib.hid (And.intro (H8.out.1.bel b9) (And.intro (H8.out.2.1.bel b9) (And.intro (H8.out.2.2.1.bel b9) (bel_trans H8.out.2.2.2.2 b9))))
    clear b9 H8 HR
    have hlaw := HL.out
    rw [← HF.out] at hlaw
    clear HL HF
    rcases hlaw with ⟨hf | hf | hf, e1, e2⟩ | ⟨hf, e1, e2⟩ | hf | hf
    · have E2 := Lib.hid e2
      clear e2
      subst hf
      have hsl := eqL_self l
      go_wp2_with fail
      refine (deInts_any _ _ _ _ _ H9.out.2.2.1.ints H9.out.1).mono ?_
      rw [E2.out]
      rintro e wa ⟨rfl, ba⟩
      go_wp2
      go_ret
      exact ⟨by first | rfl | simp_all, bel_trans H9.out.2.2.2 ba⟩
    · have E2 := Lib.hid e2
      clear e2
      subst hf
      have hsl := eqL_self l
      go_wp2_with fail
      refine (deInts_any _ _ _ _ _ H9.out.2.2.1.ints H9.out.1).mono ?_
      rw [E2.out]
      rintro e wa ⟨rfl, ba⟩
      go_wp2
      go_ret
      exact ⟨by first | rfl | simp_all, bel_trans H9.out.2.2.2 ba⟩
    · have E2 := Lib.hid e2
      clear e2
      subst hf
      have hsl := eqL_self l
      go_wp2_with fail
      refine (deInts_any _ _ _ _ _ H9.out.2.2.1.ints H9.out.1).mono ?_
      rw [E2.out]
      rintro e wa ⟨rfl, ba⟩
      go_wp2
      go_ret
      exact ⟨by first | rfl | simp_all, bel_trans H9.out.2.2.2 ba⟩
    · have E2 := Lib.hid e2
      clear e2
      subst hf
      have hsl := eqL_self m
      go_wp2_with fail
      refine (deInts_any _ _ _ _ _ H9.out.2.2.1.ints H9.out.2.1).mono ?_
      rw [E2.out]
      rintro e wa ⟨rfl, ba⟩
      go_wp2
      go_ret
      exact ⟨by first | rfl | simp_all, bel_trans H9.out.2.2.2 ba⟩
    · subst hf
      go_wp2
      go_ret
      exact ⟨by first | rfl | simp_all, H9.out.2.2.2⟩
    · subst hf
      go_wp2
      go_ret
      exact ⟨by first | rfl | simp_all, H9.out.2.2.2⟩

end Go.Proofs.Ytegofpfhlhfdnaa
