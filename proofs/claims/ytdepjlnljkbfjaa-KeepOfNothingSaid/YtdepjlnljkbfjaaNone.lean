/- KeepOfNothing: the walk. -/
import Derived.Test.YtdepjlnljkbfjaaKept
import Derived.Laws.MakeOwn
namespace Go.Proofs.Ytdepjlnljkbfjaa.Hand
open Go.RowKit Go.Proofs.Ytdepjlnljkbfjaa.PA Go.Proofs.Ytdepjlnljkbfjaa.MapP Go.Proofs.YtdepjlnljkbfjaaW.PrintWords Go.Proofs.YtdepjlnljkbfjaaW.PrintLast Go.Proofs.YtdepjlnljkbfjaaW.PrintMore
attribute [local go_sem] max2_int min2_int
set_option linter.unusedVariables false
set_option linter.unusedSimpArgs false
set_option linter.unusedSectionVars false
theorem clear_nil (s : ByteArray) (v : Value) (w : World) : Calls Try.prog 23 #[.pointer none, .string s, v] w fun e w' => e = .returned (.int .i64 1) ∧ w' = w := by
  go_enter Try.func23, Try.ntmps23
  go_wp2
  go_ret
  exact ⟨rfl, rfl⟩
/-- make([]byte, n), and its text. -/
theorem made_text (n : Nat) (hn : n ≤ 100) : ∃ (zs : Array Value) (t : ByteArray), t.size = n ∧ (∀ w, (Instr.makeSlice 23 (.int .i64 (n : Int)) (.int .i64 (n : Int))).run Try.prog w = .ok (.slice (some ⟨w.heap.size, 0, none⟩) n n) (w.alloc (.cells zs 5))) ∧
    ∀ w : World, (convert 23 9 (.slice (some ⟨w.heap.size, 0, none⟩) n n)).run Try.prog (w.alloc (.cells zs 5)) = .ok (.string t) (w.alloc (.cells zs 5)) := by
  obtain ⟨i0, hi, hz0, hz1, hz2⟩ := info_parts infoB
  refine ⟨madeCells (Value.int .u8 0).cells (n * 1), strOfNums (List.replicate n 0), by unfold strOfNums; simp [ByteArray.size], fun w => ?_, fun w => ?_⟩
  · have h := run_makeSlice (P := Try.prog) (w := w) 23 5 i0 (.int .u8 0) Try.underlying23 hi hz0 .i64 .i64 (n : Int) (n : Int) (by omega) (by omega) (by rw [hz1]; simp; omega) (by rw [hz2]; omega) (by omega)
    rw [hz1] at h
    simpa using h
  · have hc : ∀ i, i < n → (w.alloc (.cells (madeCells (Value.int .u8 0).cells (n * 1)) 5)).cell? ⟨w.heap.size, 0 + i, none⟩ = some (.int .u8 ((List.replicate n (0 : Int)).getD i 0)) := fun i hi => by
      rw [blk_cell (heap_alloc_new w _)]
      simp [madeCells, Value.cells, hi, Nat.mod_one]
    exact run_convert_bytes_arg (P := Try.prog) _ 23 5 Try.underlying23 Try.underlying5 w.heap.size 0 n n (List.replicate n 0) (by simp) hc 9 Try.underlying9
set_option maxRecDepth 100000 in
set_option maxHeartbeats 4000000 in
theorem none_walk (l : List Int) (A : Option Addr) (c : Nat) (long : Int) (w : World) (hC : Kd.C (Kd.int .u8) w A l.length l) (hc : l.length ≤ c) (hb : Bytes l) (hl : l.length ≤ 140737488351232) :
    Calls Try.prog 5 #[.slice A l.length c, .int .i64 long] w fun e w' => e = .returned (.bool true) ∧ Below w.heap.size w w' := by
  have HC := Aside0.mk hC
  have HBY := Aside0.mk hb
  clear hC hb
  by_cases hg : l.length ≤ 5000 ∧ 0 ≤ long ∧ long ≤ 100
  · obtain ⟨hl5, h0, h1⟩ := hg
    obtain ⟨n, rfl⟩ := Int.eq_ofNat_of_zero_le h0
    obtain ⟨zs, t, hts, hmk, hcv⟩ := made_text n (by omega)
    obtain ⟨want, hw⟩ : ∃ want : Int, want = if n < 1 ∨ 60 < n then 1 else 0 := ⟨_, rfl⟩
    have hsv : (saveV ⟨1048576, false, 0, []⟩ t l).1 = want := by
      by_cases hn : n < 1 ∨ 60 < n
      · unfold saveV
        rw [hts, if_pos hn, hw, if_pos hn]
      · rw [save_good 1048576 0 [] t l (by omega) (by omega) (by omega) rfl (by simp [total]; omega) (by simp), hw, if_neg hn]
    have HSV := Aside0.mk hsv
    have HW := Aside0.mk hw
    have htm : t.size ≤ maxLen := by unfold maxLen; omega
    have HTM := Aside0.mk htm
    clear hsv hw htm hts
    have hcv2 : ∀ (w : World) (o : Obj), (convert 23 9 (.slice (some ⟨w.heap.size + 1, 0, none⟩) n n)).run Try.prog ((w.alloc o).alloc (.cells zs 5)) = .ok (.string t) ((w.alloc o).alloc (.cells zs 5)) := fun w o => by
      have := hcv (w.alloc o)
      rw [show (w.alloc o).heap.size = w.heap.size + 1 from by simp] at this
      exact this
    clear hcv
    go_enter Try.func5, Try.ntmps5
    go_wp2_with fail
    refine (new_calls 1048576 _ (by omega) (by omega)).mono ?_
    rintro e w1 ⟨rfl, h1⟩
    obtain ⟨dd, hdd⟩ : ∃ dd, dd = w.heap.size + 1 := ⟨_, rfl⟩
    rw [← hdd] at h1 ⊢
    have H1 : Aside0 (DiskUp w1 w (fun k => w.heap.size ≤ k) dd ⟨1048576, false, 0, []⟩) := ⟨h1⟩
    clear h1 hdd
    go_wp2_with fail
    refine (load_nil _ _).mono ?_
    rintro e w2 ⟨rfl, rfl⟩
    have HC2 := Aside0.mk (Kd.C_below HC.out H1.out.below)
    have k1 := save1 ((H1.out.alloc (.cells #[.slice A l.length c] 23)).alloc (.cells zs 5)) t HTM.out A c l (Kd.C_alloc (Kd.C_alloc HC2.out _) _) hc HBY.out (by omega)
    obtain ⟨⟨e5, S5⟩, hr5⟩ : ∃ r, saveV ⟨1048576, false, 0, []⟩ t l = r := ⟨_, rfl⟩
    rw [hr5] at k1 HSV
    have hwe : e5 = want := HSV.out
    subst hwe
    rw [show ((w2.alloc (.cells #[.slice A l.length c] 23)).alloc (.cells zs 5)).heap.size = w2.heap.size + 2 from by simp] at k1
    have K1 := Aside0.mk k1
    clear k1 hr5
    rcases (show n < 1 ∨ (¬ n < 1 ∧ 60 < n) ∨ (¬ n < 1 ∧ ¬ 60 < n) from by omega) with hn1 | ⟨hn1, hn2⟩ | ⟨hn1, hn2⟩
    · have he1 : e5 = 1 := by rw [HW.out, if_pos (.inl hn1)]
      subst he1
      clear HW HSV
      go_wp2_with fail
      refine (save_nil _ _ _).mono ?_
      rintro e w3 ⟨rfl, rfl⟩
      go_wp2_with fail
      refine (clear_nil _ _ _).mono ?_
      rintro e w4 ⟨rfl, rfl⟩
      go_wp2_with fail
      refine K1.out.mono ?_
      rintro e w6 ⟨rfl, h6, _⟩
      go_wp2_with fail
      refine (known11 _).mono ?_
      rintro e w7 ⟨rfl, hb7⟩
      go_wp2
      go_ret
      exact ⟨rfl, h6.below.trans (hb7.mono h6.below.size)⟩
    · have he1 : e5 = 1 := by rw [HW.out, if_pos (.inr hn2)]
      subst he1
      clear HW HSV
      go_wp2_with fail
      refine (save_nil _ _ _).mono ?_
      rintro e w3 ⟨rfl, rfl⟩
      go_wp2_with fail
      refine (clear_nil _ _ _).mono ?_
      rintro e w4 ⟨rfl, rfl⟩
      go_wp2_with fail
      refine K1.out.mono ?_
      rintro e w6 ⟨rfl, h6, _⟩
      go_wp2_with fail
      refine (known11 _).mono ?_
      rintro e w7 ⟨rfl, hb7⟩
      go_wp2
      go_ret
      exact ⟨rfl, h6.below.trans (hb7.mono h6.below.size)⟩
    · have he1 : e5 = 0 := by rw [HW.out, if_neg (by omega)]
      subst he1
      clear HW HSV
      go_wp2_with fail
      refine (save_nil _ _ _).mono ?_
      rintro e w3 ⟨rfl, rfl⟩
      go_wp2_with fail
      refine (clear_nil _ _ _).mono ?_
      rintro e w4 ⟨rfl, rfl⟩
      go_wp2_with fail
      refine K1.out.mono ?_
      rintro e w6 ⟨rfl, h6, _⟩
      go_wp2_with fail
      refine (known11 _).mono ?_
      rintro e w7 ⟨rfl, hb7⟩
      go_wp2
      go_ret
      exact ⟨rfl, h6.below.trans (hb7.mono h6.below.size)⟩
  · by_cases hl5 : (5000 : Int) < (l.length : Int)
    · go_enter Try.func5, Try.ntmps5
      go_wp2
      go_ret
      exact ⟨rfl, Below.refl _ _⟩
    · by_cases h0 : long < 0
      · go_enter Try.func5, Try.ntmps5
        go_wp2
        go_ret
        exact ⟨rfl, Below.refl _ _⟩
      · have h1 : (100 : Int) < long := by omega
        go_enter Try.func5, Try.ntmps5
        go_wp2
        go_ret
        exact ⟨rfl, Below.refl _ _⟩
end Go.Proofs.Ytdepjlnljkbfjaa.Hand
