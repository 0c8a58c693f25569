/- DiskNames: the walk. -/
import Derived.Test.YtakomlealclomaaNames
import Derived.Test.YtakomlealclomaaKeepsw
import Derived.Test.YtakomlealclomaaList
namespace Go.Proofs.Ytakomlealclomaa.Hand
open Go.RowKit Go.Proofs.Ytakomlealclomaa.PA Go.Proofs.Ytakomlealclomaa.MapP Go.Proofs.YtakomlealclomaaW.PrintWords Go.Proofs.YtakomlealclomaaW.PrintLast Go.Proofs.YtakomlealclomaaW.PrintMore
attribute [local go_sem] max2_int min2_int
set_option linter.unusedVariables false
set_option linter.unusedSimpArgs false
set_option linter.unusedSectionVars false
theorem texts_y : haystacklaw10_texts.f 2 [⟨([121] : List UInt8).toArray⟩] [nY] = some true := by kernel_rfl
set_option maxRecDepth 100000 in
set_option maxHeartbeats 3000000 in
theorem names_walk (a b c : List Int) (A B C : Option Addr) (ca cb cc : Nat) (sync : Bool) (w : World) (hA : Kd.C (Kd.int .u8) w A a.length a) (hB : Kd.C (Kd.int .u8) w B b.length b) (hC : Kd.C (Kd.int .u8) w C c.length c) (la : a.length ≤ ca) (lb : b.length ≤ cb) (lc : c.length ≤ cc)
    (sa : a.length ≤ 140737488351232) (sb : b.length ≤ 140737488351232) (sc : c.length ≤ 140737488351232) (ba : Bytes a) (bb : Bytes b) (bc : Bytes c) :
    Calls Try.prog 7 #[.slice A a.length ca, .slice B b.length cb, .slice C c.length cc, .bool sync] w fun e w' => e = .returned (.bool true) ∧ Below w.heap.size w w' := by
  have HA := Aside0.mk hA
  have HB := Aside0.mk hB
  have HC := Aside0.mk hC
  have HBA := Aside0.mk ba
  have HBB := Aside0.mk bb
  have HBC := Aside0.mk bc
  clear hA hB hC ba bb bc
  by_cases hg : (8000 : Int) < (a.length : Int) + (b.length : Int) + (c.length : Int)
  · go_enter Try.func7, Try.ntmps7
    go_wp2
    go_ret
    exact ⟨rfl, Below.refl _ _⟩
  · have ht : a.length + b.length + c.length ≤ 8000 := by omega
    have HT := Aside0.mk ht
    go_enter Try.func7, Try.ntmps7
    go_wp2_with fail
    refine (new_calls 1048576 _ (by decide) (by decide)).mono ?_
    rintro e w1 ⟨rfl, h1⟩
    obtain ⟨dd, hdd⟩ : ∃ dd, dd = w.heap.size + 1 := ⟨_, rfl⟩
    rw [← hdd] at h1 ⊢
    have k1 := append1 h1 nX (by unfold maxLen; decide) A ca a (Kd.C_below HA.out h1.below) la HBA.out (by omega)
    rw [show appendV ⟨1048576, false, 0, []⟩ nX a = _ from n1 a (by omega)] at k1
    have K1 := Aside0.mk k1
    clear k1 h1 hdd
    go_wp2_with fail
    refine K1.out.mono ?_
    rintro e w2 ⟨rfl, h2, _⟩
    have k2 := sync1 h2 nX (by unfold maxLen; decide)
    rw [n2] at k2
    have K2 := Aside0.mk k2
    clear k2 h2 K1
    go_wp2_with fail
    refine K2.out.mono ?_
    rintro e w3 ⟨rfl, h3, _⟩
    have k3 := append1 h3 nX (by unfold maxLen; decide) B cb b (Kd.C_below HB.out h3.below) lb HBB.out (by omega)
    rw [n3 a b (by omega)] at k3
    have K3 := Aside0.mk k3
    clear k3 h3 K2
    go_wp2_with fail
    refine K3.out.mono ?_
    rintro e w4 ⟨rfl, h4, _⟩
    have k4 := append1 h4 nY (by unfold maxLen; decide) C cc c (Kd.C_below HC.out h4.below) lc HBC.out (by omega)
    rw [n4 a b c (by omega)] at k4
    have K4 := Aside0.mk k4
    clear k4 h4 K3
    go_wp2_with fail
    refine K4.out.mono ?_
    rintro e w5 ⟨rfl, h5, _⟩
    have H5 := Aside0.mk h5
    clear h5 K4
    cases sync
    case' true =>
      have k5 := sync1 H5.out nX (by unfold maxLen; decide)
      rw [n5] at k5
      have K5 := Aside0.mk k5
      clear k5
      go_wp2_with fail
      refine K5.out.mono ?_
      rintro e w6 ⟨rfl, h6, _⟩
      have H6 := Aside0.mk h6
      clear h6
    case' false => have H6 := H5
    all_goals
      have k6 := rename_up H6.out nX nY (by unfold maxLen; decide) (by unfold maxLen; decide)
      rw [n6] at k6
      have K6 := Aside0.mk k6
      clear k6
      go_wp2_with fail
      refine K6.out.mono ?_
      rintro e w7 ⟨rfl, h7, _⟩
      have K7 := Aside0.mk (list_one h7 _ rfl)
      clear h7
      go_wp2_with fail
      refine K7.out.mono ?_
      rintro e w8 ⟨A8, c8, rfl, hc8, hC8, h8, _⟩
      have hT := haystacklaw10_texts.calls 2 A8 c8 [⟨([121] : List UInt8).toArray⟩] (some ⟨w8.heap.size, 0, none⟩) 1 [nY] true (w8.alloc (.cells #[.string nY] 9)) (Kd.C_alloc hC8 _) hc8 (by
        refine Kd.C_of_reads (d := ByteArray.empty) (h1 := fun _ => rfl) ⟨rfl, by decide, fun _ => ⟨_, rfl, fun j hj => ?_⟩⟩
        obtain rfl : j = 0 := by simp at hj; omega
        rw [Addr.add_lit, blk_cell (heap_alloc_new w8 _)]; rfl) (by simp) texts_y
      have HTX := Aside0.mk hT
      have H8 := Aside0.mk (h8.alloc (.cells #[.string nY] 9))
      clear hT h8 hC8
      go_wp2_with fail
      refine HTX.out.mono ?_
      rintro e w9 ⟨rfl, q9, rfl⟩
      have h9 := H8.out.kept (W' := (w8.alloc (.cells #[.string nY] 9)).drewN q9) (T := fun _ => False) ⟨Nat.le_refl _, fun _ _ _ => rfl⟩ (fun _ _ h => h) (bdrewN H8.out.below q9)
      have k9 := rename_up h9 nX nZ2 (by unfold maxLen; decide) (by unfold maxLen; decide)
      rw [n7] at k9
      have K9 := Aside0.mk k9
      clear k9 h9
      go_wp2_with fail
      refine K9.out.mono ?_
      rintro e w10 ⟨rfl, h10, _⟩
      have k10 := crash_up h10 0
      rw [n8] at k10
      have K10 := Aside0.mk k10
      clear k10 h10
      go_wp2_with fail
      refine K10.out.mono ?_
      rintro e w11 ⟨rfl, h11, _⟩
      have k11 := read_up h11 nY (by unfold maxLen; decide)
      rw [n9] at k11
      first
        | rw [List.take_left] at k11
        | rw [List.take_length] at k11
      have K11 := Aside0.mk k11
      clear k11 h11
    · go_wp2_with fail
      refine K11.out.mono ?_
      rintro e w12 ⟨A12, c12, rfl, hR12, h12, hb12⟩
      have hr := Kd.R_reads' hR12
      obtain ⟨v5, W5, hrun5, hd5, hg5, ho5⟩ := (Dat.new (w := w12) (0, 0)).append 23 A a.length ca a (Kd.C_alloc (Kd.C_below HA.out h12.below) _) rfl (by simp; omega)
      simp only [List.nil_append] at hd5
      obtain ⟨A5, c5, hv5, hc5⟩ := hd5.slice
      subst hv5
      have hb5 : Below w12.heap.size w12 W5 := ((Below.refl w12.heap.size w12).alloc (Nat.le_refl _) _).grown hg5 (by simp) (fun k hk => by have := own_new hk; omega)
      have hsm := haystacklaw10_same.calls (a.length + 1) A12 c12 a A5 c5 a true W5 (Kd.C_below hr.2.2 hb5) hr.2.1 (hd5.C rfl) hc5 (same_refl _ (by omega))
      have HSM := Aside0.mk hsm
      have HB5 := Aside0.mk (h12.below.trans (hb5.mono h12.below.size))
      clear hR12 h12 hb12 hr hd5 hg5 ho5 hb5 hsm K11
      go_wp2_with (first | ((with_reducible refine gate_op (op := .buildSlice 23 0 #[]) rfl ?_); refine wpList_value_run (v := .slice (some ⟨w12.heap.size, 0, none⟩) 0 0) (w1 := w12.alloc (.cells #[] 5)) rfl (by go_simp) ?_) | ((with_reducible refine gate_builtin (b := .append) (xs := #[.tmp 89, .tmp 90]) rfl ?_); at_builtin; refine wpList_append_run rfl (.tmp 89) (.tmp 90) 23 rfl (.slice (some ⟨w12.heap.size, 0, none⟩) 0 0) (.slice A a.length ca) _ _ rfl rfl hrun5 ?_) | (go_at_call 16; refine HSM.out.mono ?_; rintro e w13 ⟨rfl, q13, rfl⟩) | (go_at_call 10; refine (known_calls _).mono ?_; rintro e w14 ⟨rfl, h14⟩))
      go_ret
      exact ⟨rfl, (bdrewN HB5.out q13).trans (h14.mono (bdrewN HB5.out q13).size)⟩
    · obtain ⟨u, hu⟩ : ∃ u, u = a ++ b := ⟨_, rfl⟩
      have hul : u.length ≤ 8000 := by rw [hu, List.length_append]; omega
      rw [← hu] at K11
      have HU := Aside0.mk hu
      clear hu
      go_wp2_with fail
      refine K11.out.mono ?_
      rintro e w12 ⟨A12, c12, rfl, hR12, h12, hb12⟩
      have hr := Kd.R_reads' hR12
      obtain ⟨v5, W5, hrun5, hd5, hg5, ho5⟩ := (Dat.new (w := w12) (0, 0)).append 23 A a.length ca a (Kd.C_alloc (Kd.C_below HA.out h12.below) _) rfl (by simp; omega)
      simp only [List.nil_append] at hd5
      have hb5 : Below w12.heap.size w12 W5 := ((Below.refl w12.heap.size w12).alloc (Nat.le_refl _) _).grown hg5 (by simp) (fun k hk => by have := own_new hk; omega)
      have hB5 := h12.below.trans (hb5.mono h12.below.size)
      obtain ⟨v6, W6, hrun6, hd6, hg6, ho6⟩ := hd5.append 23 B b.length cb b (Kd.C_below HB.out hB5) rfl (by omega)
      rw [← HU.out] at hd6
      have how : ∀ k, v5.ownBlock = some k → w12.heap.size ≤ k := fun k hk => by
        rcases ho5 with h | h
        · rw [h] at hk; have := own_new hk; omega
        · have := h k hk; simp at this; omega
      have hb6 : Below w12.heap.size w12 W6 := hb5.grown hg6 hb5.size how
      obtain ⟨A5, c5, hv5, hc5⟩ := hd5.slice
      subst hv5
      obtain ⟨A6, c6, hv6, hc6⟩ := hd6.slice
      subst hv6
      have hsm := haystacklaw10_same.calls (u.length + 1) A12 c12 u A6 c6 u true W6 (Kd.C_below hr.2.2 hb6) hr.2.1 (hd6.C rfl) hc6 (same_refl _ (by omega))
      have HSM := Aside0.mk hsm
      have HB6 := Aside0.mk (h12.below.trans (hb6.mono h12.below.size))
      clear hR12 h12 hb12 hr hd5 hg5 ho5 hb5 hsm K11 hd6 hg6 ho6 hb6 how hB5
      go_wp2_with (first | ((with_reducible refine gate_op (op := .buildSlice 23 0 #[]) rfl ?_); refine wpList_value_run (v := .slice (some ⟨w12.heap.size, 0, none⟩) 0 0) (w1 := w12.alloc (.cells #[] 5)) rfl (by go_simp) ?_) | ((with_reducible refine gate_builtin (b := .append) (xs := #[.tmp 89, .tmp 90]) rfl ?_); at_builtin; refine wpList_append_run rfl (.tmp 89) (.tmp 90) 23 rfl (.slice (some ⟨w12.heap.size, 0, none⟩) 0 0) (.slice A a.length ca) _ _ rfl rfl hrun5 ?_) | ((with_reducible refine gate_builtin (b := .append) (xs := #[.tmp 93, .tmp 94]) rfl ?_); at_builtin; refine wpList_append_run rfl (.tmp 93) (.tmp 94) 23 rfl (.slice A5 a.length c5) (.slice B b.length cb) _ _ rfl rfl hrun6 ?_) | (go_at_call 16; refine HSM.out.mono ?_; rintro e w13 ⟨rfl, q13, rfl⟩) | (go_at_call 10; refine (known_calls _).mono ?_; rintro e w14 ⟨rfl, h14⟩))
      go_ret
      exact ⟨rfl, (bdrewN HB6.out q13).trans (h14.mono (bdrewN HB6.out q13).size)⟩
end Go.Proofs.Ytakomlealclomaa.Hand
