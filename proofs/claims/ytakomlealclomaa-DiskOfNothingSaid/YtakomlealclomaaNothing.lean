import Derived.Test.YtakomlealclomaaNil
namespace Go.Proofs.Ytakomlealclomaa.Hand
open Go.RowKit Go.Proofs.Ytakomlealclomaa.PA Go.Proofs.Ytakomlealclomaa.MapP Go.Proofs.YtakomlealclomaaW.PrintWords Go.Proofs.YtakomlealclomaaW.PrintLast Go.Proofs.YtakomlealclomaaW.PrintMore
attribute [local go_sem] max2_int min2_int
set_option linter.unusedVariables false
set_option linter.unusedSimpArgs false
set_option maxRecDepth 100000 in
set_option maxHeartbeats 8000000 in
theorem nothing_walk (s : ByteArray) (hs : s.size ≤ 140737488351232) (A : Option Addr) (n c : Nat) (hn : n ≤ 140737488351232) (q : Int) (w : World) :
    Calls Try.prog 9 #[.string s, .slice A n c, .int .i64 q] w fun e w' => e = .returned (.bool true) ∧ Below w.heap.size w w' := by
  by_cases hg : (8000 : Int) < (s.size : Int) + (n : Int)
  · go_enter Try.func9, Try.ntmps9
    go_wp2
    go_ret
    exact ⟨rfl, Below.refl _ _⟩
  · go_enter Try.func9, Try.ntmps9
    go_wp2_with fail
    refine (fuse_nil q w).mono ?_
    rintro e w' ⟨rfl, rfl⟩
    go_wp2_with fail
    refine (crash_nil q _).mono ?_
    rintro e w' ⟨rfl, rfl⟩
    go_wp2_with fail
    refine (read_nil s _).mono ?_
    rintro e w' ⟨rfl, rfl⟩
    go_wp2_with fail
    refine (append_nil s _ _).mono ?_
    rintro e w1 ⟨rfl, h1⟩
    have H1 := Aside0.mk (((Below.refl _ _).alloc (Nat.le_refl _) _).trans (h1.mono (by simp)))
    clear h1
    go_wp2_with fail
    refine (sync_nil _ _).mono ?_
    rintro e w' ⟨rfl, rfl⟩
    go_wp2_with fail
    refine (trunc_nil s _ _).mono ?_
    rintro e w2 ⟨rfl, h2⟩
    have H2 := Aside0.mk ((H1.out.alloc H1.out.size _).trans (h2.mono (by have := H1.out.size; simp; omega)))
    clear h2 H1
    go_wp2_with fail
    refine (rename_nil s s _).mono ?_
    rintro e w3 ⟨rfl, h3⟩
    have H3 := Aside0.mk (H2.out.trans (h3.mono H2.out.size))
    clear h3 H2
    go_wp2_with fail
    refine (remove_nil _ _).mono ?_
    rintro e w4 ⟨rfl, h4⟩
    have H4 := Aside0.mk ((H3.out.alloc H3.out.size _).trans (h4.mono (by have := H3.out.size; simp; omega)))
    clear h4 H3
    go_wp2_with fail
    refine (list_nil _).mono ?_
    rintro e w' ⟨rfl, rfl⟩
    go_wp2_with fail
    refine (used_nil _).mono ?_
    rintro e w' ⟨rfl, rfl⟩
    go_wp2_with fail
    refine (copy_nil _).mono ?_
    rintro e w' ⟨rfl, rfl⟩
    go_wp2_with fail
    refine (known_calls _).mono ?_
    rintro e w5 ⟨rfl, h5⟩
    have H5 := Aside0.mk (H4.out.trans (h5.mono H4.out.size))
    clear h5 H4
    go_wp2
    go_ret
    exact ⟨rfl, H5.out⟩
end Go.Proofs.Ytakomlealclomaa.Hand
