/- suffix.Array: its walk, at rows that are not refused. -/
import Derived.Test.YtdbjbeebjigofaaWalk
import Derived.IntWalk
namespace Go.Proofs.Ytdbjbeebjigofaa.Hand
open Go.RowKit Go.Proofs.Ytdbjbeebjigofaa.PA Go.Proofs.Ytdbjbeebjigofaa.Sfx Go.Proofs.Ytdbjbeebjigofaa.Iter Go.Proofs.YtdbjbeebjigofaaW.PrintWords Go.Proofs.YtdbjbeebjigofaaW.PrintLast Go.Proofs.YtdbjbeebjigofaaW.PrintMore
set_option linter.unusedVariables false
set_option linter.unusedSimpArgs false
set_option maxRecDepth 100000 in
set_option maxHeartbeats 4000000 in
theorem array_main (A : Option Addr) (c : Nat) (l : List Int) (w : World) (hl : l.length ≤ 65536) (hcap : l.length ≤ c) (hC : Kd.C (Kd.int .i64) w A l.length l) (hpos : ∀ x ∈ l, 0 ≤ x) :
    Calls Try.prog 18 #[.slice A l.length c] w fun e w' => ∃ v sa, e = .returned (.tuple #[v, .int .i64 0]) ∧ IsSA l sa ∧ Kd.R (Kd.int .i64) 3 w' w.heap.size (fun _ => True) v sa ∧ Below w.heap.size w w' := by
  have h1 : ¬ (65536 : Int) < (l.length : Int) := by omega
  have HC := Aside0.mk hC
  have HP := Aside0.mk hpos
  clear hC hpos
  go_enter Try.func18, Try.ntmps18
  go_wp2
  go_loop [29] (fun i => ∃ k : Nat, k ≤ l.length ∧ i = .int .i64 k) (fun i => l.length - (intOf i).toNat)
  case atStart => exact ⟨0, Nat.zero_le _, rfl⟩
  case round =>
    obtain ⟨k, hk, rfl⟩ := hrel
    by_cases hlt : k < l.length
    · obtain ⟨a, rfl, hc⟩ := C_cell HC.out k hlt
      have hx' : 0 ≤ rd l (k : Nat) := by rw [rd_at hlt]; exact HP.out _ (List.getElem_mem _)
      go_wp2
      go_round
      case rel => exact ⟨k + 1, by omega, by go_num⟩
      case measure => simp [intOf]; omega
    · obtain rfl : k = l.length := by omega
      clear hlt hk
      have bx0 : Box (w.alloc (.cells #[.int .i64 l.length] 3)) w.heap.size 3 (.int .i64 l.length) := World.alloc_heap_new _ _
      have B0 : Below w.heap.size w (w.alloc (.cells #[.int .i64 l.length] 3)) := (Below.refl _ _).alloc (Nat.le_refl _) _
      have BX0 := Aside0.mk bx0
      have HB0 := Aside0.mk B0
      clear bx0 B0
      go_wp2_with fail
      generalize w.alloc (.cells #[.int .i64 l.length] 3) = w1 at BX0 HB0 ⊢
      refine (values_calls _ _ _ _).mono ?_
      rintro e w2 ⟨rfl, rfl⟩
      have bN0 := BX0.out.alloc (Obj.cells #[.slice A l.length c] 22)
      have B1 := HB0.out.alloc HB0.out.size (Obj.cells #[.slice A l.length c] 22)
      have bx1 : Box (w1.alloc (.cells #[.slice A l.length c] 22)) w1.heap.size 22 (.slice A l.length c) := World.alloc_heap_new _ _
      have BX1 := Aside0.mk bx1
      have HB1 := Aside0.mk B1
      have BN0 := Aside0.mk bN0
      have hsz1 : w1.heap.size < (w1.alloc (.cells #[.slice A l.length c] 22)).heap.size := by simp
      have HSZ1 := Aside0.mk hsz1
      clear hsz1 bN0 B1 bx1 HB0 BX0
      go_wp2_with fail
      obtain ⟨bq, hbq⟩ : ∃ bq, bq = w1.heap.size := ⟨_, rfl⟩
      rw [← hbq] at BX1 HSZ1 ⊢
      clear hbq
      generalize w1.alloc (.cells #[.slice A l.length c] 22) = w2 at *
      have hI : 0 < l.length → ∃ ad, A = some ad ∧ ad.block < w2.heap.size ∧ ∀ j, j < l.length → w2.cell? (ad.add j) = some (.int .i64 (l[j]?.getD 0)) := fun hp => by
        have hC2 := Kd.C_below HC.out HB1.out
        obtain ⟨ad, rfl, hc0⟩ := C_cell hC2 0 hp
        refine ⟨ad, rfl, by have := World.block_lt_of_cell? w2 _ hc0; rw [add_block] at this; exact this, fun j hj => ?_⟩
        obtain ⟨ad2, e2, hcj⟩ := C_cell hC2 j hj
        injection e2 with e2
        subst e2
        rw [hcj, rd_at hj]
        simp [hj]
      refine (sorted_calls bq A c l (by omega) w2 HSZ1.out BX1.out.cell hI).mono ?_
      rintro e w3 ⟨v3, rfl, hR3, hB3⟩
      have HR3 := Aside0.mk hR3
      have HB3 := Aside0.mk hB3
      clear hR3 hB3 hI
      go_wp2_with fail
      have hls : (sortI l).length = l.length := (sortI_perm l).length_eq
      refine (compact_calls w2 w3 v3 (sortI l) (by omega) HB3.out HR3.out).mono ?_
      rintro e w4 ⟨A4, c4, rfl, hc4, hC4, hA4, hB4⟩
      have bN4 := BN0.out.below hB4
      have B4 := HB1.out.trans (hB4.mono HB1.out.size)
      obtain ⟨hs1, hs2, hs3, _⟩ := compact_sorted l
      have HS1 := Aside0.mk hs1
      have HS2 := Aside0.mk hs2
      generalize hcs : Lib.compact (sortI l) = cs at *
      have HCS := Aside0.mk hcs
      clear hcs hs1 hs2 hls
      have hm1 := print_make (P := Try.prog) 22 3 .i64 8 Try.underlying22 infoZ (by decide) l.length (by omega)
      have cN4 := bN4.cell
      have fN4 := bN4.frozen
      have hn4 := bN4.lt
      go_wp2_with fail
      obtain ⟨gR, bR, gA, W5, e1, e2, e3, e4, hpre⟩ : ∃ gR bR gA W5, gR = w4.heap.size ∧ bR = w4.heap.size + 1 ∧ gA = w4.heap.size + 1 + 1 ∧ W5 = ((w4.alloc (Obj.cells (madeCells #[Value.int IntKind.i64 0] l.length) 3)).alloc (Obj.cells #[Value.slice (some ⟨w4.heap.size, 0, none⟩) l.length l.length] 22)).alloc (Obj.cells (madeCells #[Value.int IntKind.i64 0] l.length) 3) ∧
          Pre w4 W5 l.length bR gA gR (List.replicate l.length 0) (List.replicate l.length 0) := by
        refine ⟨_, _, _, _, rfl, rfl, rfl, rfl, ⟨(((Below.refl _ _).alloc (Nat.le_refl _) _).alloc (by simp) _).alloc (by simp; omega) _, by omega, by omega, Nat.le_refl _, by omega, by omega, by omega, ?_, ?_, ?_, by simp, by simp⟩⟩
        · refine Box.alloc ?_ _
          have := World.alloc_heap_new (w4.alloc (Obj.cells (madeCells #[Value.int IntKind.i64 0] l.length) 3)) (Obj.cells #[Value.slice (some ⟨w4.heap.size, 0, none⟩) l.length l.length] 22)
          rw [World.size_alloc] at this
          exact this
        · have := Blk.made ((w4.alloc (Obj.cells (madeCells #[Value.int IntKind.i64 0] l.length) 3)).alloc (Obj.cells #[Value.slice (some ⟨w4.heap.size, 0, none⟩) l.length l.length] 22)) l.length
          rw [World.size_alloc, World.size_alloc] at this
          exact this
        · exact ((Blk.made w4 l.length).alloc _).alloc _
      rw [← e4, ← e3, ← e2, ← e1]
      have HPRE := Aside0.mk hpre
      have BN4 := Aside0.mk bN4
      have HB4 := Aside0.mk hB4
      have B4_ := Aside0.mk B4
      have HC4 := Aside0.mk hC4
      have HA4 := Aside0.mk hA4
      clear e1 e2 e3 e4 hpre bN4 cN4 fN4 hB4 B4 hC4 hA4 hm1
      have HN4 := Aside0.mk hn4
      clear hn4
      go_loopw [48] (fun s48 wr => ∃ (i : Nat) (sa rk : List Int), i ≤ l.length ∧ s48 = .int .i64 i ∧ Aside0 (Pre w4 wr l.length bR gA gR sa rk) ∧ Aside0 (∀ j : Nat, j < i → rd sa (j : Nat) = j ∧ rd rk (j : Nat) = rank0 l j)) (fun s48 _ => l.length - (intOf s48).toNat)
      case atStart => exact ⟨0, _, _, Nat.zero_le _, rfl, HPRE, ⟨fun j hj => by omega⟩⟩
      case round =>
        obtain ⟨i, sa, rk, hi, rfl, HPR, HRK⟩ := hrel
        by_cases hlt : i < l.length
        · have hCr := Kd.C_below HC4.out HPR.out.below
          have hx : rd l (i : Nat) ∈ cs := (HS2.out _).2 (by rw [rd_at hlt]; exact List.getElem_mem _)
          obtain ⟨a, hA, hc⟩ := C_cell (Kd.C_below (Kd.C_below HC.out B4_.out) HPR.out.below) i hlt
          subst hA
          have cR := HPR.out.R.cell
          have cr := HPR.out.r.cell i (by rw [HPR.out.lr]; exact hlt)
          have fr := HPR.out.r.frozen i
          have ca := HPR.out.a.cell i (by rw [HPR.out.la]; exact hlt)
          have fa := HPR.out.a.frozen i
          have hne : gA ≠ gR := HPR.out.n3
          go_wp2
          refine start_ (n := 10) (S := fun w' => w'.cell? ⟨bR, 0, none⟩ = some (.slice (some ⟨gR, 0, none⟩) l.length l.length) ∧ Kd.C (Kd.int .i64) w' A4 cs.length cs) (ds := [9]) #[false, false, false, false, false, false, false, false, false, false] (by kernel_rfl) rfl rfl ⟨cR, (Kd.C_drew hCr)⟩ (fun hHeld => ?_)
          refine pure_ (i := 1) (N := some 55) (v := ?_) (a' := ?_) #[false, true, false, false, false, false, false, false, false, false] rfl rfl (by kernel_rfl) (fun _ _ _ h => h) (Or.inl ⟨by rfl, ?_⟩) ?_ ?_
          rotate_left
          · intro w'
            go_simp
            with_reducible rfl
          rotate_left
          · simp only [Act.put, List.setIfInBounds_toArray, List.set_cons_zero, List.set_cons_succ, i64_w, i32_w]
            rfl
          refine pure_ (i := 2) (N := some 56) (v := ?_) (a' := ?_) #[false, true, true, false, false, false, false, false, false, false] rfl rfl (by kernel_rfl) (fun _ _ _ h => h) (Or.inl ⟨by rfl, ?_⟩) ?_ ?_
          rotate_left
          · intro w'
            go_simp
            with_reducible rfl
          rotate_left
          · simp only [Act.put, List.setIfInBounds_toArray, List.set_cons_zero, List.set_cons_succ, i64_w, i32_w]
            rfl
          refine pure_ (i := 3) (N := some 57) (v := ?_) (a' := ?_) #[false, true, true, true, false, false, false, false, false, false] rfl rfl (by kernel_rfl) (fun _ _ _ h => h) (Or.inl ⟨by rfl, ?_⟩) ?_ ?_
          rotate_left
          · intro w'
            go_simp
            with_reducible rfl
          rotate_left
          · simp only [Act.put, List.setIfInBounds_toArray, List.set_cons_zero, List.set_cons_succ, i64_w, i32_w]
            rfl
          refine take_ (i := 0) (N := some 54) (v := ?_) (a' := ?_) #[true, true, true, true, false, false, false, false, false, false] rfl rfl (by kernel_rfl) (fun _ _ _ h => h) (Or.inl ⟨by rfl, ?_⟩) hHeld ?_ ?_
          rotate_left
          · rintro w' ⟨s0, s1⟩
            go_simp
            with_reducible rfl
          rotate_left
          · simp only [Act.put, List.setIfInBounds_toArray, List.set_cons_zero, List.set_cons_succ, i64_w, i32_w]
            rfl
          refine one_ (i := 4) (N := some 58) #[true, true, true, true, true, false, false, false, false, false] rfl rfl (by kernel_rfl) (by decide) (fun K hK => ?_)
          refine goes_ Try.func28 (by kernel_rfl) rfl #[.slice A4 cs.length c4, .int .i64 (rd l (i : Nat))] (by rfl) rfl rfl (by simp only [List.map_toArray, List.map_cons, List.map_nil]; rfl) ?_
          with_reducible refine (search_calls A4 c4 cs (rd l (i : Nat)) _ HA4.out hHeld.2 (by omega) HS1.out hx).mono ?_
          rintro e w5 ⟨b5, rfl, q5, rfl⟩
          refine ⟨_, rfl, ?_⟩
          refine hK.out _ _ ⟨hHeld.1, (Kd.C_drewN hHeld.2 q5)⟩ (fun hHeld => ?_)
          clear hK K
          refine norm_ (a' := ?_) ?_ ?_
          rotate_left
          · show Act.put _ (some 58) _ = _
            simp only [Act.put, List.setIfInBounds_toArray, List.set_cons_zero, List.set_cons_succ, i64_w, i32_w]
            rfl
          refine pure_ (i := 5) (N := some 53) (v := ?_) (a' := ?_) #[true, true, true, true, true, true, false, false, false, false] rfl rfl (by kernel_rfl) (fun _ _ _ h => h) (Or.inl ⟨by rfl, ?_⟩) ?_ ?_
          rotate_left
          · intro w'
            go_simp
            with_reducible rfl
          rotate_left
          · simp only [Act.put, List.setIfInBounds_toArray, List.set_cons_zero, List.set_cons_succ, i64_w, i32_w]
            rfl
          refine pure_ (i := 6) (N := some 59) (v := ?_) (a' := ?_) #[true, true, true, true, true, true, true, false, false, false] rfl rfl (by kernel_rfl) (fun _ _ _ h => h) (Or.inl ⟨by rfl, ?_⟩) ?_ ?_
          rotate_left
          · intro w'
            go_simp
            with_reducible rfl
          rotate_left
          · simp only [Act.put, List.setIfInBounds_toArray, List.set_cons_zero, List.set_cons_succ, i64_w, i32_w]
            rfl
          refine pure_ (i := 7) (N := some 60) (v := ?_) (a' := ?_) #[true, true, true, true, true, true, true, true, false, false] rfl rfl (by kernel_rfl) (fun _ _ _ h => h) (Or.inl ⟨by rfl, ?_⟩) ?_ ?_
          rotate_left
          · intro w'
            go_simp
            with_reducible rfl
          rotate_left
          · simp only [Act.put, List.setIfInBounds_toArray, List.set_cons_zero, List.set_cons_succ, i64_w, i32_w]
            rfl
          refine pure_ (i := 8) (N := some 61) (v := ?_) (a' := ?_) #[true, true, true, true, true, true, true, true, true, false] rfl rfl (by kernel_rfl) (fun _ _ _ h => h) (Or.inl ⟨by rfl, ?_⟩) ?_ ?_
          rotate_left
          · intro w'
            go_simp
            with_reducible rfl
          rotate_left
          · simp only [Act.put, List.setIfInBounds_toArray, List.set_cons_zero, List.set_cons_succ, i64_w, i32_w]
            rfl
          refine last_ (i := 9) (N := none) #[true, true, true, true, true, true, true, true, true, true] rfl rfl (by kernel_rfl) (by decide) (fun K hK => ?_)
          refine skip_ (w1 := ?_) (by rfl) rfl ?_ ?_
          rotate_left
          · go_simp
            rfl
          refine hK.out _ _ ?_
          clear hK K
          refine done_ (by kernel_rfl) ?_


          have hP6 := (HPR.out.drewN (1 + q5)).putr i (List.countP (fun c => decide (c < rd l (i : Nat))) cs : Nat)
          have hrk : (List.countP (fun c => decide (c < rd l (i : Nat))) cs : Nat) = rank0 l (i : Nat) := by unfold rank0; rw [HCS.out]
          rw [hrk] at hP6 ⊢
          have HP6 := Aside0.mk hP6
          clear hP6 hrk cR cr fr ca fa hCr hx
          generalize (wr.drewN (1 + q5)).setCell ⟨gR, i, none⟩ (.int .i64 (rank0 l (i : Nat))) = w6 at HP6 ⊢
          have ca := HP6.out.a.cell i (by rw [HPR.out.la]; exact hlt)
          have fa := HP6.out.a.frozen i
          go_wp2
          go_roundw
          case rel =>
            refine ⟨i + 1, _, _, by omega, by go_num, ⟨HP6.out.putA i (i : Nat)⟩, ⟨fun j hj => ?_⟩⟩
            rw [rd_set _ _ _ _ (by rw [HPR.out.la]; exact hlt), rd_set _ _ _ _ (by rw [HPR.out.lr]; exact hlt)]
            by_cases e : j = i
            · rw [if_pos e, if_pos e, e]; exact ⟨rfl, rfl⟩
            · rw [if_neg e, if_neg e]; exact HRK.out j (by omega)
          case measure => simp [intOf]; omega
        · obtain rfl : i = l.length := by omega
          clear hlt hi
          have esa : sa = iota l.length := by
            apply List.ext_getElem
            · rw [HPR.out.la, iota_len]
            · intro j h1 h2
              rw [HPR.out.la] at h1
              have := (HRK.out j h1).1
              rw [rd_at (by rw [HPR.out.la]; exact h1)] at this
              rw [this]; simp [iota]
          subst esa
          have cN := (HPR.out.below.cell (p := ⟨w.heap.size, 0, none⟩) HN4.out).trans BN4.out.cell
          have hm1 := print_make (P := Try.prog) 22 3 .i64 8 Try.underlying22 infoZ (by decide) l.length (by omega)
          go_wp2
          refine start_ (n := 6) (S := fun w' => w'.cell? ⟨w.heap.size, 0, none⟩ = some (.int .i64 l.length)) (ds := []) #[false, false, false, false, false, false] (by kernel_rfl) rfl rfl (cN) (fun hHeld => ?_)
          refine take_ (i := 0) (N := some 69) (v := ?_) (a' := ?_) #[true, false, false, false, false, false] rfl rfl (by kernel_rfl) (fun _ _ _ h => h) (Or.inl ⟨by rfl, ?_⟩) hHeld ?_ ?_
          rotate_left
          · intro w' s0
            go_simp
            with_reducible rfl
          rotate_left
          · simp only [Act.put, List.setIfInBounds_toArray, List.set_cons_zero, List.set_cons_succ, i64_w, i32_w]
            rfl
          refine take_ (i := 2) (N := some 71) (v := ?_) (a' := ?_) #[true, false, true, false, false, false] rfl rfl (by kernel_rfl) (fun _ _ _ h => h) (Or.inl ⟨by rfl, ?_⟩) hHeld ?_ ?_
          rotate_left
          · intro w' s0
            go_simp
            with_reducible rfl
          rotate_left
          · simp only [Act.put, List.setIfInBounds_toArray, List.set_cons_zero, List.set_cons_succ, i64_w, i32_w]
            rfl
          refine join_ (σ := Nat × Nat) 1 #[true, true, true, true, true, false] (fun s_ => [(70, .slice (some ⟨s_.1, 0, none⟩) l.length l.length), (72, .slice (some ⟨s_.2, 0, none⟩) l.length l.length), (13, .slice (some ⟨s_.1, 0, none⟩) l.length l.length)]) (fun s_ w' => (w'.cell? ⟨w.heap.size, 0, none⟩ = some (.int .i64 l.length)) ∧ Two wr w' l.length s_.1 s_.2) ?_ ?_
          rotate_left
          · intro hCont
            refine two_ (i := 1) (j := 3) (Ni := some 70) (Nj := some 72) #[true, true, true, false, false, false] #[true, false, true, true, false, false] rfl rfl rfl rfl (by kernel_rfl) (by decide) (by decide) (fun K hK => ?_) (fun K hK => ?_)
            · skip
              refine value_ (w1 := ?_) (v := ?_) (by rfl) rfl ?_ ?_
              rotate_left 2
              · go_simp
                constructor
                · rfl
                · rfl
              refine hK.out _ _ ((Go.Lib.cell?_alloc_some _ hHeld)) (fun hHeld => ?_)
              clear hK K
              refine norm_ (a' := ?_) ?_ ?_
              rotate_left
              · show Act.put _ (some 70) _ = _
                simp only [Act.put, List.setIfInBounds_toArray, List.set_cons_zero, List.set_cons_succ, i64_w, i32_w]
                rfl
              refine pure_ (i := 4) (N := some 13) (v := ?_) (a' := ?_) #[true, true, true, false, true, false] rfl rfl (by kernel_rfl) (fun _ _ _ h => h) (Or.inl ⟨by rfl, ?_⟩) ?_ ?_
              rotate_left
              · intro w'
                go_simp
                with_reducible rfl
              rotate_left
              · simp only [Act.put, List.setIfInBounds_toArray, List.set_cons_zero, List.set_cons_succ, i64_w, i32_w]
                rfl
              refine one_ (i := 3) (N := some 72) #[true, true, true, true, true, false] rfl rfl (by kernel_rfl) (by decide) (fun K hK => ?_)
              refine value_ (w1 := ?_) (v := ?_) (by rfl) rfl ?_ ?_
              rotate_left 2
              · go_simp
                constructor
                · rfl
                · rfl
              refine hK.out _ _ ((Go.Lib.cell?_alloc_some _ hHeld)) (fun hHeld => ?_)
              clear hK K
              refine norm_ (a' := ?_) ?_ ?_
              rotate_left
              · show Act.put _ (some 72) _ = _
                simp only [Act.put, List.setIfInBounds_toArray, List.set_cons_zero, List.set_cons_succ, i64_w, i32_w]
                rfl
              exact norm_ (by (try simp only [putAll, Act.put, List.setIfInBounds_toArray, List.set_cons_zero, List.set_cons_succ]); first | done | rfl | simp) (hCont (wr.heap.size, wr.heap.size + 1) _ ⟨hHeld, two_1 wr _⟩)
            · skip
              refine value_ (w1 := ?_) (v := ?_) (by rfl) rfl ?_ ?_
              rotate_left 2
              · go_simp
                constructor
                · rfl
                · rfl
              refine hK.out _ _ ((Go.Lib.cell?_alloc_some _ hHeld)) (fun hHeld => ?_)
              clear hK K
              refine norm_ (a' := ?_) ?_ ?_
              rotate_left
              · show Act.put _ (some 72) _ = _
                simp only [Act.put, List.setIfInBounds_toArray, List.set_cons_zero, List.set_cons_succ, i64_w, i32_w]
                rfl
              refine one_ (i := 1) (N := some 70) #[true, true, true, true, false, false] rfl rfl (by kernel_rfl) (by decide) (fun K hK => ?_)
              refine value_ (w1 := ?_) (v := ?_) (by rfl) rfl ?_ ?_
              rotate_left 2
              · go_simp
                constructor
                · rfl
                · rfl
              refine hK.out _ _ ((Go.Lib.cell?_alloc_some _ hHeld)) (fun hHeld => ?_)
              clear hK K
              refine norm_ (a' := ?_) ?_ ?_
              rotate_left
              · show Act.put _ (some 70) _ = _
                simp only [Act.put, List.setIfInBounds_toArray, List.set_cons_zero, List.set_cons_succ, i64_w, i32_w]
                rfl
              refine pure_ (i := 4) (N := some 13) (v := ?_) (a' := ?_) #[true, true, true, true, true, false] rfl rfl (by kernel_rfl) (fun _ _ _ h => h) (Or.inl ⟨by rfl, ?_⟩) ?_ ?_
              rotate_left
              · intro w'
                go_simp
                with_reducible rfl
              rotate_left
              · simp only [Act.put, List.setIfInBounds_toArray, List.set_cons_zero, List.set_cons_succ, i64_w, i32_w]
                rfl
              exact norm_ (by (try simp only [putAll, Act.put, List.setIfInBounds_toArray, List.set_cons_zero, List.set_cons_succ]); first | done | rfl | simp) (hCont (wr.heap.size + 1, wr.heap.size) _ ⟨hHeld, two_2 wr _⟩)
          rintro ⟨gT, gX⟩ W6 ⟨hS_, hTw⟩
          have hHeld : W6.cell? ⟨w.heap.size, 0, none⟩ = some (.int .i64 l.length) := hS_
          have HTW := Aside0.mk hTw
          clear hTw
          refine norm_ (a' := ?_) ?_ ?_
          rotate_left
          · simp only [putAll, Act.put, List.setIfInBounds_toArray, List.set_cons_zero, List.set_cons_succ]
            rfl
          refine pure_ (i := 5) (N := some 14) (v := ?_) (a' := ?_) #[true, true, true, true, true, true] rfl rfl (by kernel_rfl) (fun _ _ _ h => h) (Or.inl ⟨by rfl, ?_⟩) ?_ ?_
          rotate_left
          · intro w'
            go_simp
            with_reducible rfl
          rotate_left
          · simp only [Act.put, List.setIfInBounds_toArray, List.set_cons_zero, List.set_cons_succ, i64_w, i32_w]
            rfl
          refine done_ (by kernel_rfl) ?_


          have R6 := HPR.out.R.below HTW.out.below
          have a6 := HPR.out.a.below HTW.out.below
          have r6 := HPR.out.r.below HTW.out.below
          have B6 := (B4_.out.trans (HPR.out.below.mono B4_.out.size)).trans (HTW.out.below.mono (Nat.le_trans B4_.out.size HPR.out.below.size))
          have N6 := (BN4.out.below HPR.out.below).below HTW.out.below
          have hkb : ∀ c ∈ rk, 0 ≤ c ∧ c < (cs.length : Int) := by
            intro c hc
            obtain ⟨j, hj, rfl⟩ := List.mem_iff_getElem.1 hc
            rw [HPR.out.lr] at hj
            have h2 := (HRK.out j hj).2
            rw [rd_at (by rw [HPR.out.lr]; exact hj)] at h2
            have hr0 := ranked0 l
            rw [HCS.out] at hr0
            rw [h2]
            exact ⟨hr0.lo _ (by omega) (by omega), hr0.hi _ (by omega) (by omega)⟩
          have y4 := B4_.out.size
          have y6 := HPR.out.below.size
          have yR := HPR.out.yR
          have yA := HPR.out.yA
          have yr := HPR.out.yr
          have n1 := HPR.out.n1
          have n2 := HPR.out.n2
          have n3 := HPR.out.n3
          have t1 := HTW.out.y1
          have t2 := HTW.out.y2
          have t3 := HTW.out.ne
          have l1 := HPR.out.a.lt
          have l2 := HPR.out.r.lt
          have l3 := HPR.out.R.lt
          have hn4 := HN4.out
          have hks := key_calls w W6 l.length gA gR gT (iota l.length) rk (List.replicate l.length 0) cs.length B6 a6 r6 HTW.out.b1 (iota_len _) HPR.out.lr (by simp) (by omega) (by omega) (by omega) (List.Perm.refl _) hkb hl (by omega)
          have hbk : bucket (iota l.length) (rd rk) cs.length = bucket (iota l.length) (rank0 l) cs.length := bucket_congr _ (fun p hp => by
            obtain ⟨hp0, hp1⟩ := mem_iota.1 hp
            obtain ⟨j, rfl⟩ := Int.eq_ofNat_of_zero_le hp0
            exact (HRK.out j (by omega)).2)
          rw [hbk] at hks
          have HKS := Aside0.mk hks
          have cR6 := R6.cell
          have R6_ := Aside0.mk R6
          have a6_ := Aside0.mk a6
          have r6_ := Aside0.mk r6
          have N6_ := Aside0.mk N6
          clear R6 a6 r6 B6 N6 hkb hks hbk hHeld hS_ hm1 cN
          go_wp2_with fail
          refine HKS.out.mono ?_
          rintro e W7 ⟨rfl, b7, l7, B7, K7⟩
          have hst : St w (W7.alloc (.cells #[.int .i64 1] 3)) l.length w.heap.size bR W7.heap.size gT gA gX gR 1 (bucket (iota l.length) (rank0 l) cs.length) (iota l.length) (List.replicate l.length 0) rk := by
            have N7 : Box W7 w.heap.size 3 (.int .i64 l.length) := (K7.2 _ N6_.out.lt (by omega)).trans N6_.out
            have R7 : Box W7 bR 22 _ := (K7.2 _ R6_.out.lt (by omega)).trans R6_.out
            have a7 := blk_kept a6_.out K7 (by omega)
            have r7 := blk_kept r6_.out K7 (by omega)
            have x7 := blk_kept HTW.out.b2 K7 (by omega)
            have q1 := N7.lt
            have q2 := R7.lt
            have q3 := a7.lt
            have q4 := r7.lt
            have q5 := x7.lt
            have q6 := b7.lt
            refine ⟨B7.alloc B7.size _, ?_, ?_, N7.alloc _, R7.alloc _, World.alloc_heap_new _ _, b7.alloc _, a7.alloc _, x7.alloc _, r7.alloc _, l7, iota_len _, by simp, HPR.out.lr⟩
            · simp only [List.mem_cons, List.not_mem_nil, or_false, forall_eq_or_imp, forall_eq]
              refine ⟨?_, ?_, ?_, ?_, ?_, ?_, ?_⟩ <;> omega
            · simp only [List.nodup_cons, List.mem_cons, List.not_mem_nil, or_false, not_or, List.nodup_nil, not_false_eq_true, and_true]
              refine ⟨⟨?_, ?_, ?_, ?_, ?_, ?_⟩, ⟨?_, ?_, ?_, ?_, ?_⟩, ⟨?_, ?_, ?_, ?_⟩, ⟨?_, ?_, ?_⟩, ⟨?_, ?_⟩, ?_⟩ <;> omega
          have hinv := inv0 l
          rw [HCS.out] at hinv
          have hrr : Inv l 1 (bucket (iota l.length) (rank0 l) cs.length) (rd rk) cs.length := by
            have hq : ∀ a : Int, 0 ≤ a → a < l.length → rd rk a = rank0 l a := fun a h0 h1 => by
              obtain ⟨j, rfl⟩ := Int.eq_ofNat_of_zero_le h0
              exact (HRK.out j (by omega)).2
            exact ⟨hinv.perm, hinv.up, ⟨fun a b ha ha2 hb hb2 => by rw [hq a ha ha2, hq b hb hb2]; exact hinv.ranked.lt a b ha ha2 hb hb2, fun a ha ha2 => by rw [hq a ha ha2]; exact hinv.ranked.lo a ha ha2, fun a ha ha2 => by rw [hq a ha ha2]; exact hinv.ranked.hi a ha ha2⟩, hinv.many0, hinv.manyn, hinv.full, hinv.pos⟩
          have HST := Aside0.mk hst
          have HIV := Aside0.mk hrr
          clear hst hinv hrr b7 l7 B7 K7 y4 y6 yR yA yr n1 n2 n3 t1 t2 t3 l1 l2 l3 hn4 R6_ a6_ r6_ N6_ cR6 HKS HTW HPR HRK HCS HN4 BN4 HB4 B4_ HC4 HA4 HPRE HB1 BN0 HSZ1 BX1 HR3 HB3 HS1 HS2
          go_wp2
          obtain ⟨hA, hT, eA, eT⟩ : ∃ hA hT : Nat, hA = gT ∧ hT = gA := ⟨_, _, rfl, rfl⟩
          rw [← eA, ← eT] at HST ⊢
          clear eA eT
          go_loopg [12, 14, 15] (2 * l.length + 2) (fun gk s12 s14 s15 wr => ∃ (k m bK gX gR : Nat) (sa tmp nx rk : List Int), s12 = .int .i64 m ∧ s14 = .slice (some ⟨gX, 0, none⟩) l.length l.length ∧ s15 = .pointer (some ⟨bK, 0, none⟩) ∧
            2 * l.length + 2 ≤ gk + k ∧ k ≤ 2 * l.length + 1 ∧ Aside0 (St w wr l.length w.heap.size bR bK hA hT gX gR k sa tmp nx rk) ∧ Aside0 (Inv l k sa (rd rk) m))
          case atStart => exact ⟨1, _, _, _, _, _, _, _, _, rfl, rfl, rfl, by omega, by omega, HST, HIV⟩
          case round =>
            obtain ⟨k, m, bK, gX, gR, sa, tmp, nx, rk, rfl, rfl, rfl, hgk, hk2, HST, HIV⟩ := hrel
            obtain ⟨gk, rfl⟩ : ∃ q, gk = q + 1 := ⟨gk - 1, by omega⟩
            by_cases hlt : m < l.length
            · have hkn : k < l.length := HIV.out.small (by omega)
              have hk1 : 1 ≤ k := HIV.out.pos
              have hmn : m ≤ 65536 := by omega
              have cN := HST.out.N.cell
              have cK := HST.out.K.cell
              go_wp2
              obtain ⟨wo, rfl⟩ : ∃ wo : World, wo = wr := ⟨_, rfl⟩
              go_loopw [16, 17] (fun s16 s17 wq => ∃ (j : Nat) (tmp : List Int), j ≤ k ∧ s16 = .int .i64 j ∧ s17 = .int .i64 ((l.length : Int) - k + j) ∧ Aside0 (St w wq l.length w.heap.size bR bK hA hT gX gR k sa tmp nx rk) ∧ Aside0 (tmp.take j = ((iota l.length).drop (l.length - k)).take j)) (fun s16 _ _ => k - (intOf s16).toNat)
              case atStart => exact ⟨0, tmp, Nat.zero_le _, rfl, iv (by omega), HST, ⟨by simp⟩⟩
              case round =>
                obtain ⟨j, tmp, hj, rfl, rfl, HST, HT⟩ := hrel
                have cN := HST.out.N.cell
                by_cases hjk : j < k
                · have ht1 : (l.length : Int) - k + j < l.length := by omega
                  have cT := HST.out.t.cell j (by rw [HST.out.lt]; omega)
                  have fT := HST.out.t.frozen j
                  have hjn : j < l.length := by omega
                  go_wp2
                  go_roundw
                  case rel =>
                    refine ⟨j + 1, _, by omega, by go_num, iv (by omega), ⟨HST.out.putT j _⟩, ⟨?_⟩⟩
                    rw [take_set_succ _ _ _ (by rw [HST.out.lt]; omega), HT.out, List.take_succ_eq_append_getElem (by simp [iota_len]; omega)]
                    congr 2
                    simp [iota]
                    omega
                  case measure => simp [intOf]; omega
                · obtain rfl : k = j := by omega
                  clear hjk hj
                  go_wp2
                  obtain ⟨wo2, rfl⟩ : ∃ w2 : World, w2 = wr := ⟨_, rfl⟩
                  go_loopw [16, 101] (fun s16 s101 wq => ∃ (i : Nat) (tmp : List Int), i ≤ l.length ∧ s101 = .int .i64 i ∧ s16 = .int .i64 (pfx l.length k sa i).length ∧ Aside0 (St w wq l.length w.heap.size bR bK hA hT gX gR k sa tmp nx rk) ∧ Aside0 (tmp.take (pfx l.length k sa i).length = pfx l.length k sa i)) (fun _ s101 _ => l.length - (intOf s101).toNat)
                  case atStart =>
                    refine ⟨0, tmp, Nat.zero_le _, rfl, iv (by rw [pfx_len0 _ _ (by omega)]), HST, ⟨?_⟩⟩
                    rw [pfx_len0 _ _ (by omega), HT.out, List.take_of_length_le (by simp [iota_len]; omega)]
                    simp [pfx]
                  case round =>
                    obtain ⟨i, tmp, hi, rfl, rfl, HST, HT⟩ := hrel
                    by_cases hil : i < l.length
                    · have him : rd sa (i : Nat) ∈ iota l.length := HIV.out.perm.subset (by rw [rd_at (by rw [HST.out.la]; exact hil)]; exact List.getElem_mem _)
                      obtain ⟨hq0, hq1⟩ := mem_iota.1 him
                      obtain ⟨q, hq⟩ : ∃ q : Nat, rd sa (i : Nat) = q := ⟨(rd sa (i : Nat)).toNat, by omega⟩
                      rw [hq] at hq1
                      have cA := HST.out.a.cell i (by rw [HST.out.la]; exact hil)
                      rw [hq] at cA
                      have cK := HST.out.K.cell
                      have hps := pfx_succ l.length k sa i (by rw [HST.out.la]; exact hil)
                      rw [hq] at hps
                      have hle := pfx_le l.length k (by omega) sa HIV.out.perm (i + 1) (by rw [HST.out.la]; omega)
                      obtain ⟨a, ha⟩ : ∃ a, a = (pfx l.length k sa i).length := ⟨_, rfl⟩
                      rw [← ha] at HT ⊢
                      have HQ := Aside0.mk hq
                      have HA := Aside0.mk ha
                      clear hq ha him hq0
                      by_cases hkq : k ≤ q
                      · rw [if_pos (by omega)] at hps
                        have HPS := Aside0.mk hps
                        have hal : a < l.length := by rw [hps, List.length_append, List.length_singleton, ← HA.out] at hle; omega
                        clear hps hle
                        have cT := HST.out.t.cell a (by rw [HST.out.lt]; exact hal)
                        have fT := HST.out.t.frozen a
                        have hkq2 : (k : Int) ≤ q := by omega
                        go_wp2
                        go_roundw
                        case rel =>
                          refine ⟨i + 1, _, by omega, by go_num, iv (by rw [HPS.out, List.length_append, ← HA.out]; simp), ⟨HST.out.putT a _⟩, ⟨?_⟩⟩
                          rw [HPS.out, List.length_append, List.length_singleton, ← HA.out, take_set_succ _ _ _ (by rw [HST.out.lt]; exact hal), HT.out]
                        case measure => simp [intOf]; omega
                      · rw [if_neg (by omega)] at hps
                        have HPS := Aside0.mk hps
                        clear hps hle
                        have hkq2 : ¬ (k : Int) ≤ q := by omega
                        go_wp2
                        go_roundw
                        case rel => exact ⟨i + 1, tmp, by omega, by go_num, iv (by rw [HPS.out, ← HA.out]), HST, ⟨by rw [HPS.out, ← HA.out]; exact HT.out⟩⟩
                        case measure => simp [intOf]; omega
                    · obtain rfl : i = l.length := by omega
                      clear hil hi
                      have htm : tmp = bySecond l.length k sa := by
                        have h1 := HT.out
                        have h2 : (bySecond l.length k sa).length = l.length := by rw [(bySecond_perm (by omega) HIV.out.perm).length_eq, iota_len]
                        rw [← HIV.out.len, pfx_all, HIV.out.len, h2, List.take_of_length_le (by rw [HST.out.lt]; exact Nat.le_refl _)] at h1
                        exact h1
                      subst htm
                      clear HT
                      have cR := HST.out.R.cell
                      go_wp2_with fail
                      obtain ⟨hp2, hu2⟩ := sorted_double HIV.out.ranked (by omega) HIV.out.perm HIV.out.up m rfl
                      have hkb : ∀ c ∈ rk, 0 ≤ c ∧ c < (m : Int) := by
                        intro c hc
                        obtain ⟨j, hj, rfl⟩ := List.mem_iff_getElem.1 hc
                        rw [HST.out.lr] at hj
                        have h1 := HIV.out.ranked.lo (j : Nat) (by omega) (by omega)
                        have h2 := HIV.out.ranked.hi (j : Nat) (by omega) (by omega)
                        rw [rd_at (by rw [HST.out.lr]; exact hj)] at h1 h2
                        exact ⟨h1, h2⟩
                      have hne := HST.out.ne
                      refine (key_calls w wr l.length hT gR hA (bySecond l.length k sa) rk sa m HST.out.below HST.out.t HST.out.r HST.out.a HST.out.lt HST.out.lr HST.out.la (Ne.symm hne.2.2.2.1.1) (Ne.symm hne.2.2.2.1.2.2) HST.out.yA (bySecond_perm (by omega) HIV.out.perm) hkb hl hmn).mono ?_
                      rintro e W8 ⟨rfl, b8, l8, B8, K8⟩
                      have HST8 := Aside0.mk (HST.out.newA b8 l8 B8 K8)
                      obtain ⟨sb, hsb⟩ : ∃ sb, sb = bucket (bySecond l.length k sa) (rd rk) m := ⟨_, rfl⟩
                      rw [← hsb] at HST8 hp2 hu2
                      have HSB := Aside0.mk hsb
                      clear hsb b8 l8 B8 K8 HST hkb hne cR cN
                      have hat : ∀ i : Nat, i < l.length → ∃ q : Nat, q < l.length ∧ rd sb (i : Nat) = q := fun i hi => by
                        have him : rd sb (i : Nat) ∈ iota l.length := hp2.subset (by rw [rd_at (by rw [HST8.out.la]; exact hi)]; exact List.getElem_mem _)
                        obtain ⟨hq0, hq1⟩ := mem_iota.1 him
                        exact ⟨(rd sb (i : Nat)).toNat, by omega, by omega⟩
                      have HAT := Aside0.mk hat
                      have HP2 := Aside0.mk hp2
                      have HU2 := Aside0.mk hu2
                      clear hat hp2 hu2
                      obtain ⟨q0, hq0, eq0⟩ := HAT.out 0 (by omega)
                      have cA := HST8.out.a.cell 0 (by rw [HST8.out.la]; omega)
                      rw [eq0] at cA
                      have cX := HST8.out.x.cell q0 (by rw [HST8.out.lx]; exact hq0)
                      have fX := HST8.out.x.frozen q0
                      have EQ0 := Aside0.mk eq0
                      clear eq0
                      go_wp2
                      have HST9 := Aside0.mk (HST8.out.putX q0 0)
                      have hc0 : rd (nx.set q0 0) (rd sb ((0 : Nat) : Int)) = climb l (2 * k) sb 0 := by
                        rw [EQ0.out, rd_set _ _ _ _ (by rw [HST8.out.lx]; exact hq0), if_pos rfl]; rfl
                      have HC0 := Aside0.mk hc0
                      clear hc0 cA cX fX
                      generalize W8.setCell ⟨gX, q0, none⟩ (.int .i64 0) = W9 at HST9 ⊢
                      go_loopw [21] (fun s21 wq => ∃ (i : Nat) (nx : List Int), 1 ≤ i ∧ i ≤ l.length ∧ s21 = .int .i64 i ∧ Aside0 (St w wq l.length w.heap.size bR bK hA hT gX gR k sb (bySecond l.length k sa) nx rk) ∧ Aside0 (∀ j : Nat, j < i → rd nx (rd sb (j : Nat)) = climb l (2 * k) sb j)) (fun s21 _ => l.length - (intOf s21).toNat)
                      case atStart => exact ⟨1, _, Nat.le_refl _, by omega, rfl, HST9, ⟨fun j hj => by obtain rfl : j = 0 := (by omega); exact HC0.out⟩⟩
                      case round =>
                        obtain ⟨i, nx, hi1, hi2, rfl, HST, HCL⟩ := hrel
                        have cN := HST.out.N.cell
                        by_cases hil : i < l.length
                        · obtain ⟨p, hpn, hp⟩ := HAT.out (i - 1) (by omega)
                          obtain ⟨q, hqn, hq⟩ := HAT.out i hil
                          have cp := HST.out.a.cell (i - 1) (by rw [HST.out.la]; omega)
                          have cq := HST.out.a.cell i (by rw [HST.out.la]; exact hil)
                          rw [hp] at cp
                          rw [hq] at cq
                          have HPP := Aside0.mk hp
                          have HQQ := Aside0.mk hq
                          clear hp hq
                          have hw1 : IntKind.i64.wrap ((i : Int) - 1) = (i : Int) - 1 := IntWalk.i64_in _ (by omega)
                          have hw2 : 0 ≤ (i : Int) - 1 := by omega
                          have hw3 : ((i : Int) - 1).toNat = i - 1 := by omega
                          have hw4 : (i : Int) - 1 < l.length := by omega
                          go_wp2
                          go_quiet (fail)
                          have HSTq := Aside0.mk (HST.out.drewN nq)
                          generalize wr.drewN nq = w10 at HSTq ⊢
                          clear cp cq hw1 hw2 hw3 hw4
                          have cxp := HSTq.out.x.cell p (by rw [HST.out.lx]; exact hpn)
                          have cxq := HSTq.out.x.cell q (by rw [HST.out.lx]; exact hqn)
                          have fxq := HSTq.out.x.frozen q
                          have hcp : rd nx (p : Nat) = climb l (2 * k) sb (i - 1) := by rw [← HPP.out]; exact HCL.out (i - 1) (by omega)
                          rw [hcp] at cxp
                          have hcb := climb_lo l (2 * k) sb (i - 1)
                          obtain ⟨v, hv⟩ : ∃ v, v = climb l (2 * k) sb (i - 1) := ⟨_, rfl⟩
                          rw [← hv] at cxp hcb
                          have HV := Aside0.mk hv
                          clear hv hcp
                          go_wp2
                          have HST11 := Aside0.mk (HSTq.out.putX q v)
                          generalize w10.setCell ⟨gX, q, none⟩ (.int .i64 v) = w11 at HST11 ⊢
                          clear cxp cxq fxq
                          have cR := HST11.out.R.cell
                          have crp := HST11.out.r.cell p (by rw [HST11.out.lr]; exact hpn)
                          have crq := HST11.out.r.cell q (by rw [HST11.out.lr]; exact hqn)
                          obtain ⟨rp, hrp⟩ : ∃ x, x = rd rk (p : Nat) := ⟨_, rfl⟩
                          obtain ⟨rq, hrq⟩ : ∃ x, x = rd rk (q : Nat) := ⟨_, rfl⟩
                          rw [← hrp] at crp
                          rw [← hrq] at crq
                          have HRP := Aside0.mk hrp
                          have HRQ := Aside0.mk hrq
                          clear hrp hrq
                          have hsp := fun a => (second_calls (HST11.out.drewN a) l rfl hl (by omega) p hpn).mono (fun e w'' h => (⟨h.1, a, h.2⟩ : _ ∧ ∃ n, w'' = w11.drewN n))
                          have hsq := fun a => (second_calls (HST11.out.drewN a) l rfl hl (by omega) q hqn).mono (fun e w'' h => (⟨h.1, a, h.2⟩ : _ ∧ ∃ n, w'' = w11.drewN n))
                          obtain ⟨sp, hsp'⟩ : ∃ x, x = second l k (rd rk) (p : Nat) := ⟨_, rfl⟩
                          obtain ⟨sq, hsq'⟩ : ∃ x, x = second l k (rd rk) (q : Nat) := ⟨_, rfl⟩
                          rw [← hsp'] at hsp
                          rw [← hsq'] at hsq
                          have HSP := Aside0.mk hsp
                          have HSQ := Aside0.mk hsq
                          have HSP' := Aside0.mk hsp'
                          have HSQ' := Aside0.mk hsq'
                          clear hsp hsq hsp' hsq'
                          by_cases e1 : rp = rq
                          · have e1b : (rp != rq) = false := by simp [e1]
                            have E1 := Aside0.mk e1
                            clear e1
                            by_cases e2 : sp = sq
                            · have e2b : (sp != sq) = false := by simp [e2]
                              have E2 := Aside0.mk e2
                              clear e2
                              go_quiet (first | with_reducible exact HSP.out _ | with_reducible exact HSQ.out _)
                              go_wp2
                              go_roundw
                              case rel =>
                                have hx : climb l (2 * k) sb i = v := by
                                  rw [climb_next HIV.out.ranked HIV.out.pos hi1 HPP.out HQQ.out hpn hqn, if_pos ⟨by rw [← HRP.out, ← HRQ.out]; exact E1.out, by rw [← HSP'.out, ← HSQ'.out]; exact E2.out⟩, ← HV.out]; omega
                                exact ⟨i + 1, _, by omega, by omega, by go_num, ⟨HST11.out.drewN nq⟩, ⟨climb_put HP2.out hil HST.out.lx HCL.out HQQ.out hqn _ hx⟩⟩
                              case measure => simp [intOf]; omega
                            · have e2b : (sp != sq) = true := by simp [e2]
                              have E2 := Aside0.mk e2
                              clear e2
                              go_quiet (first | with_reducible exact HSP.out _ | with_reducible exact HSQ.out _)
                              have HST12 := Aside0.mk (HST11.out.drewN nq)
                              generalize w11.drewN nq = w12 at HST12 ⊢
                              have cx := HST12.out.x.cell q (by rw [List.length_set, HST.out.lx]; exact hqn)
                              have fx := HST12.out.x.frozen q
                              rw [rd_set _ _ _ _ (by rw [HST.out.lx]; exact hqn), if_pos rfl] at cx
                              go_wp2
                              go_roundw
                              case rel =>
                                have hx : climb l (2 * k) sb i = v + 1 := by
                                  rw [climb_next HIV.out.ranked HIV.out.pos hi1 HPP.out HQQ.out hpn hqn, if_neg (fun h => E2.out (by rw [HSP'.out, HSQ'.out]; exact h.2)), ← HV.out]
                                refine ⟨i + 1, _, by omega, by omega, by go_num, ⟨HST12.out.putX q (v + 1)⟩, ⟨?_⟩⟩
                                rw [List.set_set]
                                exact climb_put HP2.out hil HST.out.lx HCL.out HQQ.out hqn _ hx
                              case measure => simp [intOf]; omega
                          · have e1b : (rp != rq) = true := by simp [e1]
                            have E1 := Aside0.mk e1
                            clear e1
                            go_quiet (first | with_reducible exact HSP.out _ | with_reducible exact HSQ.out _)
                            have HST12 := Aside0.mk (HST11.out.drewN nq)
                            generalize w11.drewN nq = w12 at HST12 ⊢
                            have cx := HST12.out.x.cell q (by rw [List.length_set, HST.out.lx]; exact hqn)
                            have fx := HST12.out.x.frozen q
                            rw [rd_set _ _ _ _ (by rw [HST.out.lx]; exact hqn), if_pos rfl] at cx
                            go_wp2
                            go_roundw
                            case rel =>
                              have hx : climb l (2 * k) sb i = v + 1 := by
                                rw [climb_next HIV.out.ranked HIV.out.pos hi1 HPP.out HQQ.out hpn hqn, if_neg (fun h => E1.out (by rw [HRP.out, HRQ.out]; exact h.1)), ← HV.out]
                              refine ⟨i + 1, _, by omega, by omega, by go_num, ⟨HST12.out.putX q (v + 1)⟩, ⟨?_⟩⟩
                              rw [List.set_set]
                              exact climb_put HP2.out hil HST.out.lx HCL.out HQQ.out hqn _ hx
                            case measure => simp [intOf]; omega
                        · obtain rfl : i = l.length := by omega
                          clear hil hi2
                          have cR := HST.out.R.cell
                          have fR := HST.out.R.frozen
                          go_wp2
                          have HST20 := Aside0.mk HST.out.swapR
                          generalize wr.setCell ⟨bR, 0, none⟩ (.slice (some ⟨gX, 0, none⟩) l.length l.length) = w20 at HST20 ⊢
                          clear cR fR cN
                          obtain ⟨z, hzn, hz⟩ := HAT.out (l.length - 1) (by omega)
                          have cR := HST20.out.R.cell
                          have cN := HST20.out.N.cell
                          have cA := HST20.out.a.cell (l.length - 1) (by rw [HST20.out.la]; omega)
                          rw [hz] at cA
                          have cz := HST20.out.r.cell z (by rw [HST20.out.lr]; exact hzn)
                          have hcz : rd nx (z : Nat) = climb l (2 * k) sb (l.length - 1) := by rw [← hz]; exact HCL.out _ (by omega)
                          rw [hcz] at cz
                          have hcb := climb_lo l (2 * k) sb (l.length - 1)
                          obtain ⟨v, hv⟩ : ∃ v : Nat, climb l (2 * k) sb (l.length - 1) = v := ⟨(climb l (2 * k) sb (l.length - 1)).toNat, by omega⟩
                          rw [hv] at cz hcb
                          have HV := Aside0.mk hv
                          clear hv hcz hz
                          have hw1 : IntKind.i64.wrap ((l.length : Int) - 1) = (l.length : Int) - 1 := IntWalk.i64_in _ (by omega)
                          have hw2 : 0 ≤ (l.length : Int) - 1 := by omega
                          have hw3 : ((l.length : Int) - 1).toNat = l.length - 1 := by omega
                          have hw4 : (l.length : Int) - 1 < l.length := by omega
                          have hw5 : IntKind.i64.wrap ((v : Int) + 1) = (v : Int) + 1 := IntWalk.i64_in _ (by omega)
                          go_quiet (fail)
                          have HST21 := Aside0.mk (HST20.out.drewN nq)
                          generalize w20.drewN nq = w21 at HST21 ⊢
                          clear cR cN cA cz hw1 hw2 hw3 hw4 hw5
                          have cK := HST21.out.K.cell
                          have hk4 : (k : Int) ≤ 65536 := by omega
                          go_wp2
                          go_roundg gk
                          case measure => omega
                          case rel =>
                            have hI := HIV.out.next (by omega) (by omega) (rd nx) (by rw [← HSB.out]; exact HCL.out)
                            rw [← HSB.out, HV.out] at hI
                            have hS : St w (w21.alloc (.cells #[.int .i64 ((k : Int) * 2)] 3)) l.length w.heap.size bR w21.heap.size hA hT gR gX ((2 * k : Nat) : Int) sb (bySecond l.length k sa) rk nx := by
                              rw [show ((2 * k : Nat) : Int) = (k : Int) * 2 from by omega]
                              exact HST21.out.newK _
                            exact ⟨2 * k, v + 1, w21.heap.size, gR, gX, sb, _, rk, nx, by go_num, rfl, rfl, by omega, by omega, ⟨hS⟩, ⟨hI⟩⟩
            · have hfull : (l.length : Int) ≤ m := by omega
              have cN := HST.out.N.cell
              go_wp2
              go_ret2
              have h9 := HST.out.a.R w.heap.size HST.out.yA (by rw [HST.out.la]; omega)
              rw [HST.out.la] at h9
              exact ⟨_, _, rfl, HIV.out.done hfull, Kd.R_mono h9 (fun _ _ => trivial), HST.out.below⟩
/-- The order of the endings of a row. -/
def saOf (l : List Int) : List Int := (iota l.length).mergeSort fun a b => leL (suf l a) (suf l b)
theorem saOf_isSA (l : List Int) : IsSA l (saOf l) := by
  have hp : (saOf l).Perm (iota l.length) := List.mergeSort_perm _ _
  have hs := List.pairwise_mergeSort (le := fun a b : Int => leL (suf l a) (suf l b)) (fun a b c h1 h2 => leL_trans h1 h2) (fun a b => by rcases leL_total (suf l a) (suf l b) with h | h <;> simp [h]) (iota l.length)
  refine ⟨hp, ?_⟩
  have hnd : (saOf l).Nodup := hp.symm.nodup (iota_nodup _)
  rw [List.pairwise_iff_getElem]
  intro i j hi hj hij
  have h1 := List.pairwise_iff_getElem.1 hs i j hi hj hij
  refine leL_lt h1 (fun e => ?_)
  have m1 := mem_iota.1 (hp.subset (List.getElem_mem hi))
  have m2 := mem_iota.1 (hp.subset (List.getElem_mem hj))
  exact List.pairwise_iff_getElem.1 hnd i j hi hj hij (suf_inj m1.1 m1.2 m2.1 m2.2 e)
def suffix_Array.f (l : List Int) : Option (List Int × Int) := if 65536 < l.length then some ([], 5) else if ∃ x ∈ l, x < 0 then some ([], 1) else some (saOf l, 0)
theorem suffix_Array.calls (A0 : Option Addr) (c0 : Nat) (l0 : List Int) (r1 : List Int) (r2 : Int) (w : World) (hr0 : Kd.C (Kd.int .i64) w A0 l0.length l0) (hc0 : l0.length ≤ c0) (h : suffix_Array.f l0 = some (r1, r2)) :
    Calls Try.prog 18 #[.slice A0 l0.length c0] w fun e w' => ∃ v0_ : Value, e = .returned (.tuple #[v0_, .int .i64 r2]) ∧ Kd.R (Kd.int .i64) 3 w' w.heap.size (fun _ => True) v0_ r1 ∧ Below w.heap.size w w' := by
  unfold suffix_Array.f at h
  by_cases h1 : 65536 < l0.length
  · rw [if_pos h1] at h
    obtain ⟨rfl, rfl⟩ := Prod.mk.inj (Option.some.inj h)
    refine (array_long A0 c0 l0 w h1).mono ?_
    rintro e w' ⟨rfl, rfl⟩
    exact ⟨_, rfl, Kd.R_nil _ _ _ _ _, Below.refl _ _⟩
  · rw [if_neg h1] at h
    by_cases h2 : ∃ x ∈ l0, x < 0
    · rw [if_pos h2] at h
      obtain ⟨rfl, rfl⟩ := Prod.mk.inj (Option.some.inj h)
      refine (array_neg A0 c0 l0 w (by omega) hr0 h2).mono ?_
      rintro e w' ⟨rfl, rfl⟩
      exact ⟨_, rfl, Kd.R_nil _ _ _ _ _, Below.refl _ _⟩
    · rw [if_neg h2] at h
      obtain ⟨rfl, rfl⟩ := Prod.mk.inj (Option.some.inj h)
      refine (array_main A0 c0 l0 w (by omega) hc0 hr0 (fun x hx => by
        rcases Int.lt_or_le x 0 with h | h
        · exact absurd ⟨x, hx, h⟩ h2
        · exact h)).mono ?_
      rintro e w' ⟨v, sa, rfl, hs, hR, hB⟩
      rw [hs.uniq (saOf_isSA l0)] at hR
      exact ⟨_, rfl, hR, hB⟩
#print axioms suffix_Array.calls
end Go.Proofs.Ytdbjbeebjigofaa.Hand
