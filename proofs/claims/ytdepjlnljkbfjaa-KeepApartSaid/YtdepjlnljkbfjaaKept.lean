/- What Save leaves: plain. -/
import Derived.Test.YtdepjlnljkbfjaaSave
import Derived.Test.YtdepjlnljkbfjaaFuse
import Derived.Lib.SmallJoins
namespace Go.Proofs.Ytdepjlnljkbfjaa.Hand
open Go.RowKit Go.Proofs.Ytdepjlnljkbfjaa.PA Go.Proofs.Ytdepjlnljkbfjaa.MapP Go.Proofs.YtdepjlnljkbfjaaW.PrintWords Go.Proofs.YtdepjlnljkbfjaaW.PrintLast Go.Proofs.YtdepjlnljkbfjaaW.PrintMore
set_option linter.unusedVariables false
set_option linter.unusedSimpArgs false
set_option linter.unusedSectionVars false
theorem shK_key (s : ByteArray) : (shK s).data.toList = s.data.toList ++ [126] := by unfold shK; simp
theorem shK_ne (s : ByteArray) : s.data.toList ≠ (shK s).data.toList := by
  rw [shK_key]
  intro h
  have := congrArg List.length h
  simp at this
theorem good_of {s : ByteArray} (h1 : 1 ≤ s.size) (h2 : s.size ≤ 64) : badName s = false := by
  unfold badName
  rw [decide_eq_false (by omega), decide_eq_false (by omega)]
  rfl
theorem may_open {S : DV} (hf : S.fused = false) {l : List ByteArray} (h : l.any badName = false) : mayV S.fused S.left l = 0 := by
  unfold mayV
  rw [hf, h]
  rfl
theorem done_open (left : Int) : doneL false left = left := rfl
theorem del_none {β : Type} {L : List (Key × β)} {k : Key} (h : at_ L k = none) : del L k = L := by
  unfold del
  rw [List.filter_eq_self]
  intro p hp
  simpa using at_none h p hp
theorem del_snoc {β : Type} {L : List (Key × β)} {k : Key} {x : β} (h : at_ L k = none) : del (L ++ [(k, x)]) k = L := by
  have h1 := del_none h
  unfold del at h1 ⊢
  rw [List.filter_append, h1]
  simp
theorem at_snoc {β : Type} {L : List (Key × β)} {k : Key} {x : β} (h : at_ L k = none) : at_ (L ++ [(k, x)]) k = some x := by
  rw [at_append, h, at_cons]
  simp
theorem put_snoc {β : Type} {L : List (Key × β)} {k : Key} {x y : β} (h : at_ L k = none) : put (L ++ [(k, x)]) k y = L ++ [(k, y)] := by
  have h1 := at_snoc (x := x) h
  rw [put_old h1, List.map_append]
  congr 1
  · refine (List.map_congr_left fun p hp => ?_).trans (List.map_id' L)
    simp [at_none h p hp]
  · simp
/-- A Save that nothing hinders. -/
theorem save_good (room left : Int) (L : List (Key × (List Int × Nat))) (s : ByteArray) (xs : List Int) (h1 : 1 ≤ s.size) (h2 : s.size ≤ 60) (hx : xs.length ≤ 1048576) (hn : at_ L (shK s).data.toList = none) (ht : (total L : Int) + xs.length + 12 ≤ room) (hl : L.length < 4096) :
    saveV ⟨room, false, left, L⟩ s xs = (0, ⟨room, false, left, put L s.data.toList (encF xs, (encF xs).length)⟩) := by
  have hbs := good_of h1 (by omega)
  have hbt : badName (shK s) = false := good_of (by rw [shK_size]; omega) (by rw [shK_size]; omega)
  unfold saveV
  rw [if_neg (show ¬ (s.size < 1 ∨ 60 < s.size) from by omega), if_neg (by omega)]
  simp only [hn, Option.isSome_none, Bool.false_eq_true, if_false]
  have ha : appendV ⟨room, false, left, L⟩ (shK s) (encF xs) = (0, ⟨room, false, left, L ++ [((shK s).data.toList, (encF xs, 0))]⟩) := by
    unfold appendV
    rw [if_neg (by rw [may_open rfl (by simp [hbt])]; simp), if_neg ?_]
    · simp only [hn, Option.getD_none, List.nil_append, put_new hn, done_open]
    · simp only
      rw [encF_len]
      rintro (h | h) <;> omega
  have hs : oneV syncX ⟨room, false, left, L ++ [((shK s).data.toList, (encF xs, 0))]⟩ (shK s) = (0, ⟨room, false, left, L ++ [((shK s).data.toList, (encF xs, (encF xs).length))]⟩) := by
    unfold oneV
    rw [if_neg (by rw [may_open rfl (by simp [hbt])]; simp)]
    simp only [at_snoc hn, syncX, put_snoc hn, done_open]
  have hr : renameV ⟨room, false, left, L ++ [((shK s).data.toList, (encF xs, (encF xs).length))]⟩ (shK s) s = (0, ⟨room, false, left, put L s.data.toList (encF xs, (encF xs).length)⟩) := by
    unfold renameV
    rw [if_neg (by rw [may_open rfl (by simp [hbt, hbs])]; simp)]
    simp only [at_snoc hn, del_snoc hn, done_open]
  unfold saveT
  rw [ha]
  simp only [ne_eq, not_true_eq_false, if_false]
  rw [hs]
  simp only [not_true_eq_false, if_false]
  exact hr
/-- What any Save leaves under its name. -/
theorem save_at (S : DV) (s : ByteArray) (xs : List Int) : ((saveV S s xs).1 = 0 → at_ (saveV S s xs).2.L s.data.toList = some (encF xs, (encF xs).length)) ∧ ((saveV S s xs).1 ≠ 0 → at_ (saveV S s xs).2.L s.data.toList = at_ S.L s.data.toList) := by
  have hne := shK_ne s
  have hA : ∀ (S1 : DV) ys, at_ (appendV S1 (shK s) ys).2.L s.data.toList = at_ S1.L s.data.toList := fun S1 ys => by
    unfold appendV
    split
    · rfl
    · split
      · rfl
      · exact at_put_other hne
  have hS : ∀ (S1 : DV), at_ (oneV syncX S1 (shK s)).2.L s.data.toList = at_ S1.L s.data.toList := fun S1 => by
    unfold oneV
    split
    · rfl
    · split
      · rfl
      · exact at_put_other hne
  have hR : ∀ (S1 : DV), at_ (oneV removeX S1 (shK s)).2.L s.data.toList = at_ S1.L s.data.toList := fun S1 => by
    unfold oneV
    split
    · rfl
    · split
      · rfl
      · exact at_del_other hne
  have hT : ∀ S1 : DV, at_ S1.L (shK s).data.toList = none → ((saveT S1 (shK s) s xs).1 = 0 → at_ (saveT S1 (shK s) s xs).2.L s.data.toList = some (encF xs, (encF xs).length)) ∧ ((saveT S1 (shK s) s xs).1 ≠ 0 → at_ (saveT S1 (shK s) s xs).2.L s.data.toList = at_ S1.L s.data.toList) := by
    intro S1 hn
    unfold saveT
    by_cases h1 : (appendV S1 (shK s) (encF xs)).1 ≠ 0
    · rw [if_pos h1]
      exact ⟨fun h => absurd h h1, fun _ => hA _ _⟩
    · rw [if_neg h1]
      have hz : at_ (appendV S1 (shK s) (encF xs)).2.L (shK s).data.toList = some (encF xs, 0) := by
        unfold appendV at h1 ⊢
        split
        · rename_i h; rw [if_pos h] at h1; exact absurd h h1
        · split
          · rename_i h0 h; rw [if_neg h0, if_pos h] at h1; simp at h1
          · rw [at_put_same, hn]; rfl
      generalize hS2 : (appendV S1 (shK s) (encF xs)).2 = S2 at hz
      have hA2 : at_ S2.L s.data.toList = at_ S1.L s.data.toList := by rw [← hS2]; exact hA _ _
      by_cases h2 : (oneV syncX S2 (shK s)).1 ≠ 0
      · rw [if_pos h2]
        exact ⟨fun h => absurd h h2, fun _ => by rw [hS, hA2]⟩
      · rw [if_neg h2]
        have hz3 : at_ (oneV syncX S2 (shK s)).2.L (shK s).data.toList = some (encF xs, (encF xs).length) := by
          unfold oneV at h2 ⊢
          split
          · rename_i h; rw [if_pos h] at h2; exact absurd h h2
          · rw [hz]
            exact at_put_same
        have hS3 := hS S2
        generalize (oneV syncX S2 (shK s)).2 = S3 at hz3 hS3
        unfold renameV
        split
        · rename_i h
          exact ⟨fun h0 => absurd h0 h, fun _ => by rw [hS3, hA2]⟩
        · rw [hz3]
          refine ⟨fun _ => at_put_same, fun h => absurd rfl h⟩
  unfold saveV
  split
  · exact ⟨fun h => by simp at h, fun _ => rfl⟩
  · split
    · exact ⟨fun h => by simp at h, fun _ => rfl⟩
    · split
      · rename_i hs0
        split
        · rename_i h
          exact ⟨fun h0 => absurd h0 h, fun _ => hR S⟩
        · rename_i h
          have hn : at_ (oneV removeX S (shK s)).2.L (shK s).data.toList = none := by
            unfold oneV at h ⊢
            split
            · rename_i h1; rw [if_pos h1] at h; exact absurd h1 h
            · split
              · rename_i h2; exact h2
              · exact at_del_same
          have := hT _ hn
          rw [hR] at this
          exact this
      · rename_i hs0
        exact hT S (by cases h : at_ S.L (shK s).data.toList with | none => rfl | some x => rw [h] at hs0; simp at hs0)
/-- A crash leaves what lasts whole. -/
theorem crash_at (draw : Int) (S : DV) (k : Key) : at_ (crashV draw S).L k = (at_ S.L k).map (crashX draw) := at_map _ S.L k
theorem crash_full (draw : Int) (l : List Int) : crashX draw (l, l.length) = (l, l.length) := by
  have h : stays draw (l, l.length) = l.length := by unfold stays; simp [Int.emod_one]
  unfold crashX
  rw [h, List.take_length]
theorem load_of {S : DV} {s : ByteArray} {xs : List Int} {n : Nat} (h : at_ S.L s.data.toList = some (encF xs, n)) (hx : xs.length ≤ 1048576) : loadV S s = (xs, 0) := by
  unfold loadV
  rw [h]
  simp only [oneF_enc xs hx]
  rfl
theorem load_none {S : DV} {s : ByteArray} (h : at_ S.L s.data.toList = none) : loadV S s = ([], 7) := by
  unfold loadV
  rw [h]
end Go.Proofs.Ytdepjlnljkbfjaa.Hand

/- haystacklaw11.known; Save of one row. -/
namespace Go.Proofs.Ytdepjlnljkbfjaa.Hand
open Go.RowKit Go.Proofs.Ytdepjlnljkbfjaa.PA Go.Proofs.Ytdepjlnljkbfjaa.MapP Go.Proofs.YtdepjlnljkbfjaaW.PrintWords Go.Proofs.YtdepjlnljkbfjaaW.PrintLast Go.Proofs.YtdepjlnljkbfjaaW.PrintMore
attribute [local go_sem] max2_int min2_int
set_option linter.unusedVariables false
set_option linter.unusedSimpArgs false
set_option linter.unusedSectionVars false
theorem same_refl11_0 (l : List Int) (hl : l.length ≤ 4611686018427387904) : ∀ (d i : Nat), i + d = l.length → haystacklaw11_same.l0 (d + 1) l l i = some true
  | 0, i, h => by
    unfold haystacklaw11_same.l0
    rw [if_neg (by omega)]
  | d + 1, i, h => by
    unfold haystacklaw11_same.l0
    have e : wrap64 ((i : Int) + 1) = ((i + 1 : Nat) : Int) := by unfold wrap64; omega
    rw [if_pos (by omega), if_pos (by omega), if_pos (by omega), if_pos rfl, e]
    exact same_refl11_0 l hl d (i + 1) (by omega)
theorem same_refl11 (l : List Int) (hl : l.length ≤ 4611686018427387904) : haystacklaw11_same.f (l.length + 1) l l = some true := by
  unfold haystacklaw11_same.f
  rw [if_pos rfl]
  exact same_refl11_0 l hl l.length 0 (by omega)
theorem same11 (A B : Option Addr) (c d : Nat) (l : List Int) (w : World) (hA : Kd.C (Kd.int .u8) w A l.length l) (hc : l.length ≤ c) (hB : Kd.C (Kd.int .u8) w B l.length l) (hd : l.length ≤ d) (hl : l.length ≤ 4611686018427387904) :
    Calls Try.prog 14 #[.slice A l.length c, .slice B l.length d] w fun e w' => e = .returned (.bool true) ∧ Below w.heap.size w w' := by
  refine (haystacklaw11_same.calls (l.length + 1) A c l B d l true w hA hc hB hd (same_refl11 l hl)).mono ?_
  rintro e w' ⟨rfl, q, rfl⟩
  exact ⟨rfl, bdrewN (Below.refl _ _) q⟩
section
variable {w w0 : World} {d : Nat} {ok : Nat → Prop} {S : DV}
theorem save1 (h : DiskUp w w0 ok d S) (s : ByteArray) (hsz : s.size ≤ maxLen) (A : Option Addr) (c : Nat) (xs : List Int) (hC : Kd.C (Kd.int .u8) w A xs.length xs) (hc : xs.length ≤ c) (hb : Bytes xs) (ht : xs.length ≤ 140737488355328) :
    Calls Try.prog 11 #[.pointer (some ⟨d, 0, none⟩), .string s, .slice (some ⟨w.heap.size, 0, none⟩) 1 1] (w.alloc (.cells #[.slice A xs.length c] 23)) fun e w' => e = .returned (.int .i64 (saveV S s xs).1) ∧ DiskUp w' w0 (fun k => ok k ∨ w.heap.size ≤ k) d (saveV S s xs).2 ∧ Kept w w' ok := by
  have h1 := save_up (h.alloc (.cells #[.slice A xs.length c] 23)) s hsz (some ⟨w.heap.size, 0, none⟩) 1 [xs] (rows_one hC hc 23) (by simp) (fun l hl => by rw [List.mem_singleton.1 hl]; exact hb) (by simp) (by simpa using ht)
  have e : [xs].flatten = xs := by simp
  rw [e] at h1
  refine h1.mono ?_
  rintro e w' ⟨rfl, h2, h3⟩
  refine ⟨rfl, h2.mono (fun b hb => hb.imp_right (fun h => ?_)), ((Kept.refl w ok).alloc _).then_ h3 (fun b hb => .inl hb)⟩
  simp at h
  omega
end
def SK (xs : List Int) : DV := ⟨1000, false, 0, [([97], (encF xs, (encF xs).length))]⟩
theorem kk1 : saveV ⟨1000, false, 0, []⟩ nA [49, 50, 51] = (0, SK [49, 50, 51]) := by
  rw [save_good 1000 0 [] nA [49, 50, 51] (by decide) (by decide) (by simp) rfl (by simp [total]) (by simp)]
  rfl
theorem kk2 (xs : List Int) : crashV 0 (SK xs) = SK xs := by
  unfold crashV SK
  simp only [List.map_cons, List.map_nil, crash_full]
theorem kk3 : loadV (SK [49, 50, 51]) nA = ([49, 50, 51], 0) := load_of (n := (encF [49, 50, 51]).length) (by simp [SK, at_cons]) (by simp)
theorem kk4 : ∀ x, at_ (SK [49, 50, 51]).L nA.data.toList = some x → Bytes x.1 := by
  intro x hx
  simp only [SK, at_cons] at hx
  simp at hx
  subst hx
  exact encF_bytes (by intro z hz; simp at hz; omega)
set_option maxRecDepth 100000 in
set_option maxHeartbeats 4000000 in
theorem known11 (w : World) : Calls Try.prog 8 #[] w fun e w' => e = .returned (.bool true) ∧ Below w.heap.size w w' := by
  have kc := fun (w : World) (C : Array Value) (n c : Nat) => Lib.run_convert_bytes_const (P := Try.prog) w 23 5 C n c Try.underlying23 Try.underlying5
  have kc2 := fun (w : World) (o : Obj) (C : Array Value) (n c : Nat) => Go.Joins.run_convert_bytes_const_at (P := Try.prog) (w.alloc o) 23 5 C n c (w.heap.size + 1) (by simp) Try.underlying23 Try.underlying5
  go_enter Try.func8, Try.ntmps8
  go_wp2_with fail
  refine (new_calls 1000 w (by decide) (by decide)).mono ?_
  rintro e w1 ⟨rfl, h1⟩
  have hC1 := Kd.C_alloc (bytes_new w1 [49, 50] (by simp) (2, 3)) (.cells (bts [51]).toArray 5 (1, 2))
  have hC2 := bytes_new (w1.alloc (.cells (bts [49, 50]).toArray 5 (2, 3))) [51] (by simp) (1, 2)
  rw [show (w1.alloc (.cells (bts [49, 50]).toArray 5 (2, 3))).heap.size = w1.heap.size + 1 from by simp] at hC2
  have hR := rows_two (c := 2) (d := 1) hC1 (by simp) hC2 (by simp) 23
  rw [show ((w1.alloc (.cells (bts [49, 50]).toArray 5 (2, 3))).alloc (.cells (bts [51]).toArray 5 (1, 2))).heap.size = w1.heap.size + 2 from by simp] at hR
  have k2 := save_up (((h1.alloc (.cells (bts [49, 50]).toArray 5 (2, 3))).alloc (.cells (bts [51]).toArray 5 (1, 2))).alloc (.cells #[.slice (some ⟨w1.heap.size, 0, none⟩) [49, 50].length 2, .slice (some ⟨w1.heap.size + 1, 0, none⟩) [51].length 1] 23)) nA (by unfold maxLen; decide) (some ⟨w1.heap.size + 2, 0, none⟩) 2 [[49, 50], [51]] hR (by simp) (by intro l hl; simp at hl; rcases hl with rfl | rfl <;> (intro z hz; simp at hz; omega)) (by simp) (by simp)
  rw [show ([[49, 50], [51]] : List (List Int)).flatten = [49, 50, 51] from rfl, kk1] at k2
  have K2 := Aside0.mk k2
  clear k2 hC1 hC2 hR h1
  go_wp2_with fail
  refine K2.out.mono ?_
  rintro e w2 ⟨rfl, h2⟩
  have k3 := crash_up h2.up 0
  rw [kk2] at k3
  have K3 := Aside0.mk k3
  clear k3 h2 K2
  go_wp2_with fail
  refine K3.out.mono ?_
  rintro e w3 ⟨rfl, h3, _⟩
  have k4 := load_up h3 nA (by unfold maxLen; decide) kk4
  rw [kk3] at k4
  have K4 := Aside0.mk k4
  have HB3 := Aside0.mk h3.below
  clear k4 h3 K3
  go_wp2_with fail
  refine K4.out.mono ?_
  rintro e w4 ⟨A4, c4, rfl, hc4, hC4, hb4⟩
  have k5 := same11 A4 (some ⟨w4.heap.size, 0, none⟩) c4 3 [49, 50, 51] (w4.alloc (.cells (bts [49, 50, 51]).toArray 5 (3, 4))) (Kd.C_alloc hC4 _) hc4 (bytes_new w4 _ (by simp) _) (by simp) (by simp)
  have K5 := Aside0.mk k5
  have HB4 := Aside0.mk (HB3.out.trans (hb4.mono HB3.out.size))
  clear k5 hC4 hb4 K4
  go_wp2_with fail
  refine K5.out.mono ?_
  rintro e w5 ⟨rfl, hb5⟩
  go_wp2
  go_ret
  exact ⟨rfl, (HB4.out.alloc HB4.out.size _).trans (hb5.mono (by have := HB4.out.size; simp; omega))⟩
end Go.Proofs.Ytdepjlnljkbfjaa.Hand
