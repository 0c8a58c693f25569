import Derived.Test.YtmindpofjnicfaaKnown
namespace Go.Proofs.Ytmindpofjnicfaa.Hand
open Go.RowKit Go.Proofs.Ytmindpofjnicfaa.PA Go.Proofs.YtmindpofjnicfaaW.PrintWords Go.Proofs.YtmindpofjnicfaaW.PrintLast Go.Proofs.YtmindpofjnicfaaW.PrintMore
attribute [local go_sem] max2_int min2_int
theorem drop_nil (A : Option Addr) (n c : Nat) (w : World) : Calls Try.prog 15 #[.pointer none, .slice A n c] w fun e w' => e = .returned (.int .i64 0) ∧ Below w.heap.size w w' := by
  go_enter Try.func15, Try.ntmps15
  go_wp2_with (go_at_call 13; refine (len_nil _).mono ?_; rintro e w' ⟨rfl, rfl⟩)
  go_ret
  exact ⟨rfl, (Below.refl _ _).alloc (Nat.le_refl _) _⟩
set_option maxHeartbeats 1000000 in
theorem nothing_walk (x : S28) (p : Int) (A : Option Addr) (c : Nat) (w : World) (hK : Kd.C (Kd.int .u8) w A x.f2.length x.f2) :
    Calls Try.prog 7 #[.agg #[.int .i64 x.f0, .int .i64 x.f1, .slice A x.f2.length c], .int .i64 p] w fun e w' => e = .returned (.bool true) ∧ Below w.heap.size w w' := by
  have HK := Aside0.mk hK
  clear hK
  by_cases hl : (1000 : Int) < x.f2.length
  · go_enter Try.func7, Try.ntmps7
    go_wp2
    go_ret
    exact ⟨rfl, (Below.refl _ _).alloc (Nat.le_refl _) _⟩
  · go_enter Try.func7, Try.ntmps7
    have hB0 : Below w.heap.size w (w.alloc (Obj.cells #[Value.int IntKind.i64 x.f0, Value.int IntKind.i64 x.f1, Value.slice A x.f2.length c] 28)) := (Below.refl _ _).alloc (Nat.le_refl _) _
    have hb7 := heap_alloc_new w (Obj.cells #[Value.int IntKind.i64 x.f0, Value.int IntKind.i64 x.f1, Value.slice A x.f2.length c] 28)
    go_wp2_with fail
    generalize w.alloc (Obj.cells #[Value.int IntKind.i64 x.f0, Value.int IntKind.i64 x.f1, Value.slice A x.f2.length c] 28) = w1 at *
    refine (give_nil _ _).mono ?_
    rintro e w2 ⟨rfl, hB1⟩
    have hb8 := (hB1.block _ (blk_lt hb7)).trans hb7
    have hB2 := hB0.trans (hB1.mono hB0.size)
    have c0 : ∀ o, (w2.alloc o).cell? ⟨w.heap.size, 0, none⟩ = some (.int .i64 x.f0) := fun o => (blk_cell (blk_alloc hb8 o) 0).trans rfl
    have c1 : ∀ o, (w2.alloc o).cell? ⟨w.heap.size, 1, none⟩ = some (.int .i64 x.f1) := fun o => (blk_cell (blk_alloc hb8 o) 1).trans rfl
    have c2 : ∀ o, (w2.alloc o).cell? ⟨w.heap.size, 2, none⟩ = some (.slice A x.f2.length c) := fun o => (blk_cell (blk_alloc hb8 o) 2).trans rfl
    have HB := Aside0.mk hB2
    clear hB0 hB1 hB2 hb7 hb8
    go_wp2_with fail
    refine (send_nil _ _ _ _).mono ?_
    rintro e w3 ⟨rfl, rfl⟩
    go_wp2_with fail
    refine (len_nil _).mono ?_
    rintro e w3 ⟨rfl, rfl⟩
    go_wp2_with fail
    have hx : (((w2.alloc (Obj.cells #[Value.int IntKind.i64 0, Value.int IntKind.i64 0, Value.slice none 0 0] 28)).alloc (Obj.cells #[Value.int IntKind.i64 x.f0, Value.int IntKind.i64 x.f1, Value.slice A x.f2.length c] 28)).alloc (Obj.cells #[Value.int IntKind.i64 p] 3)).heap[w2.heap.size]? = some (.cells #[Value.int IntKind.i64 0, Value.int IntKind.i64 0, Value.slice none 0 0] 28 (0, 0)) := blk_alloc (blk_alloc (heap_alloc_new w2 _) _) _
    have hB3 : Below w.heap.size w (((w2.alloc (Obj.cells #[Value.int IntKind.i64 0, Value.int IntKind.i64 0, Value.slice none 0 0] 28)).alloc (Obj.cells #[Value.int IntKind.i64 x.f0, Value.int IntKind.i64 x.f1, Value.slice A x.f2.length c] 28)).alloc (Obj.cells #[Value.int IntKind.i64 p] 3)) := ((HB.out.alloc HB.out.size _).alloc (by have := HB.out.size; simp; omega) _).alloc (by have := HB.out.size; simp; omega) _
    refine (drop_nil _ _ _ _).mono ?_
    generalize (((w2.alloc (Obj.cells #[Value.int IntKind.i64 0, Value.int IntKind.i64 0, Value.slice none 0 0] 28)).alloc (Obj.cells #[Value.int IntKind.i64 x.f0, Value.int IntKind.i64 x.f1, Value.slice A x.f2.length c] 28)).alloc (Obj.cells #[Value.int IntKind.i64 p] 3)) = w3 at *
    rintro e w4 ⟨rfl, hB4⟩
    have hx4 := (hB4.block _ (blk_lt hx)).trans hx
    have HB5 := Aside0.mk (hB3.trans (hB4.mono hB3.size))
    have x0 := (blk_cell hx4 0).trans rfl
    have x1 := (blk_cell hx4 1).trans rfl
    have x2 := (blk_cell hx4 2).trans rfl
    clear hB3 hB4 hx hx4 HB c0 c1 c2
    go_wp2_with fail
    have hnil : Kd.C (Kd.int .u8) w4 none ([] : List Int).length [] := ⟨rfl, by simp, fun h => absurd h (by simp)⟩
    refine (haystacklaw17_one.calls 1 0 0 none 0 [] 0 0 none 0 [] true w4 hnil (Nat.le_refl _) hnil (Nat.le_refl _) (by decide +kernel)).mono ?_
    clear hnil
    rintro e w5 ⟨rfl, hB6⟩
    have HB7 := Aside0.mk (HB5.out.trans (hB6.mono HB5.out.size))
    clear hB6 HB5 x0 x1 x2
    go_wp2_with fail
    refine (twice_nil _ _).mono ?_
    rintro e w6 ⟨rfl, hB8⟩
    have HB9 := Aside0.mk (HB7.out.trans (hB8.mono HB7.out.size))
    clear hB8 HB7
    go_wp2_with fail
    refine (late_nil _ _).mono ?_
    rintro e w7 ⟨rfl, hB10⟩
    have HB11 := Aside0.mk (HB9.out.trans (hB10.mono HB9.out.size))
    clear hB10 HB9
    go_wp2_with fail
    refine (known_calls _).mono ?_
    rintro e w8 ⟨rfl, hB12⟩
    have HB13 := Aside0.mk (HB11.out.trans (hB12.mono HB11.out.size))
    clear hB12 HB11
    go_wp2
    go_ret
    exact ⟨rfl, HB13.out⟩
end Go.Proofs.Ytmindpofjnicfaa.Hand
