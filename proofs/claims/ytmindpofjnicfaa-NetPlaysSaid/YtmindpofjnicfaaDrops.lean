import Derived.Test.YtmindpofjnicfaaDropc
import Derived.Deep.QuietTactic
import Derived.BigQuiet
namespace Go.Proofs.Ytmindpofjnicfaa.Hand
open Go.RowKit Go.Proofs.Ytmindpofjnicfaa.PA Go.Proofs.YtmindpofjnicfaaW.PrintWords Go.Proofs.YtmindpofjnicfaaW.PrintLast Go.Proofs.YtmindpofjnicfaaW.PrintMore
attribute [local go_sem] max2_int min2_int
set_option linter.unusedVariables false
set_option linter.unusedSimpArgs false
theorem info3 : (Try.prog.info? 3).map (fun i => (i.zero, i.size, i.bytes)) = some (some (.int .i64 0), 1, 8) := by kernel_rfl
theorem int_own {k : IntKind} {e : Nat} {w : World} {base : Nat} {ok : Nat → Prop} {v : Value} {xs : List Int} (h : Kd.R (Kd.int k) e w base ok v xs) : Kd.R (Kd.int k) e w base (fun q => some q = v.ownBlock) v xs := ⟨fun q hq => hq.symm, h.2⟩
theorem reads_ints {W : World} {S : Nat → Prop} {q : Nat} (a b : Int) (hq : W.heap[q]? = some (.cells #[.int .i64 a, .int .i64 b] 3 (0, 0))) (hqS : ¬ S q) : ∀ W', Kept W W' S → Kd.C (Kd.int .i64) W' (some ⟨q, 0, none⟩) [a, b].length [a, b] := by
  intro W' hK
  have hb := (hK.2 q (blk_lt hq) hqS).trans hq
  refine ⟨rfl, by simp, fun _ => ⟨_, rfl, fun j p hj => ?_⟩⟩
  match j with
  | 0 =>
    cases hj
    refine ⟨_, rfl, rfl, fun i u hu => ?_⟩
    match i with
    | 0 => have h := blk_cell hb 0; rw [← hu]; exact h
    | i + 1 => simp at hu
  | 1 =>
    cases hj
    refine ⟨_, rfl, rfl, fun i u hu => ?_⟩
    match i with
    | 0 => have h := blk_cell hb 1; rw [← hu]; exact h
    | i + 1 => simp at hu
  | j + 2 => simp at hj
/-- A row of one byte in a block of its own. -/
theorem reads_byte {W : World} {S : Nat → Prop} {q : Nat} (y : Int) (hq : W.heap[q]? = some (.cells #[.int .u8 y] 5 (0, 0))) (hqS : ¬ S q) : ∀ W', Kept W W' S → Kd.C (Kd.int .u8) W' (some ⟨q, 0, none⟩) [y].length [y] := by
  intro W' hK
  have hb := (hK.2 q (blk_lt hq) hqS).trans hq
  refine ⟨rfl, by simp, fun _ => ⟨_, rfl, fun j p hj => ?_⟩⟩
  cases j with
  | zero =>
    cases hj
    refine ⟨_, rfl, rfl, fun i u hu => ?_⟩
    have h := blk_cell hb i
    rw [show (⟨q, 0, none⟩ : Addr).add (0 * (Kd.int .u8).sz + i) = ⟨q, i, none⟩ from by simp [Addr.add]; omega]
    rw [h]
    simpa using hu
  | succ j => simp at hj
theorem reads_lit {W : World} {S : Nat → Prop} {q : Nat} {x : S28} {A2 : Option Addr} {c2 : Nat} (hC : ∀ W', Kept W W' S → Kd.C (Kd.int .u8) W' A2 x.f2.length x.f2) (hle : x.f2.length ≤ c2)
    (hq : W.heap[q]? = some (.cells #[.int .i64 x.f0, .int .i64 x.f1, .slice A2 x.f2.length c2] 28 (0, 0))) (hqS : ¬ S q) :
    ∀ W', Kept W W' S → Kd.C k28 W' (some ⟨q, 0, none⟩) [x].length [x] := by
  intro W' hK
  have hb := (hK.2 q (blk_lt hq) hqS).trans hq
  refine ⟨rfl, by simp, fun _ => ⟨_, rfl, fun j p hj => ?_⟩⟩
  cases j with
  | zero =>
    cases hj
    refine ⟨_, rfl, k28_mk W' x hle (hC W' hK), fun i u hu => ?_⟩
    have h := blk_cell hb i
    rw [show (⟨q, 0, none⟩ : Addr).add (0 * k28.sz + i) = ⟨q, i, none⟩ from by simp [Addr.add]; omega]
    rw [h]
    simpa using hu
  | succ j => simp at hj
/-- The message of place i. -/
def msgD (zs : List Int) (i : Nat) : S28 := ⟨bits BinOp.and IntKind.i64 (rd zs i) 3, bits BinOp.and IntKind.i64 (rd zs i / 4) 3, [IntKind.u8.wrap (i : Int)]⟩
def msgsD (zs : List Int) (i : Nat) : List S28 := (List.range i).map (msgD zs)
theorem msgsD_len (zs : List Int) (i : Nat) : (msgsD zs i).length = i := by simp [msgsD]
theorem msgsD_succ (zs : List Int) (i : Nat) : msgsD zs (i + 1) = msgsD zs i ++ [msgD zs i] := by simp [msgsD, List.range_succ]
/-- The places that stay. -/
def wantN (zs : List Int) (a b : Int) (i : Nat) : List Nat := (List.range i).filter fun j => !hit [a, b] (msgD zs j)
theorem wantN_succ (zs : List Int) (a b : Int) (i : Nat) : wantN zs a b (i + 1) = wantN zs a b i ++ (if hit [a, b] (msgD zs i) then [] else [i]) := by
  unfold wantN
  rw [List.range_succ, List.filter_append]
  cases h : hit [a, b] (msgD zs i) <;> simp [h]
theorem drop_msgs (zs : List Int) (a b : Int) (i : Nat) : dropL [a, b] (msgsD zs i) = (wantN zs a b i).map (msgD zs) := by
  unfold dropL msgsD wantN
  rw [List.filter_map]
  rfl
theorem giveX_zero {l : List S28} (hl : 0 < l.length) : giveX 0 l = l.getD 0 ⟨0, 0, []⟩ := by
  have h : pickOf 0 l.length = 0 := by unfold pickOf; simp
  simp only [giveX, h, if_neg (Nat.ne_of_gt hl)]
  rfl
theorem giveL_zero (l : List S28) : giveL 0 l = l.drop 1 := by
  have h : pickOf 0 l.length = 0 := by unfold pickOf; simp
  cases l with
  | nil => rfl
  | cons x l =>
    have : (x :: l).length ≠ 0 := by simp
    simp only [giveL, h, if_neg this]
    rfl
/-- Two new blocks, made in either order. -/
structure Fork (w W : World) (md dd : Nat) (o1 o2 : Obj) : Prop where
  m : W.heap[md]? = some o1
  d : W.heap[dd]? = some o2
  ne : md ≠ dd
  hm : w.heap.size ≤ md
  hd : w.heap.size ≤ dd
  b : Below w.heap.size w W
theorem fork_1 (w : World) (o1 o2 : Obj) : Fork w ((w.drew.alloc o2).alloc o1) (w.heap.size + 1) w.heap.size o1 o2 :=
  ⟨o2_at w.drew o2 o1, blk_alloc (heap_alloc_new w.drew o2) o1, by omega, by omega, Nat.le_refl _, ((Below.refl _ _).drew.alloc (Nat.le_refl _) _).alloc (by simp) _⟩
theorem fork_2 (w : World) (o1 o2 : Obj) : Fork w ((w.drew.alloc o1).alloc o2) w.heap.size (w.heap.size + 1) o1 o2 :=
  ⟨blk_alloc (heap_alloc_new w.drew o1) o2, o2_at w.drew o1 o2, by omega, Nat.le_refl _, by omega, ((Below.refl _ _).drew.alloc (Nat.le_refl _) _).alloc (by simp) _⟩
set_option maxRecDepth 100000 in
set_option maxHeartbeats 4000000 in
theorem drops_walk (zs : List Int) (a b : Int) (A : Option Addr) (c : Nat) (w : World) (hK : Kd.C (Kd.int .i64) w A zs.length zs) :
    Calls Try.prog 4 #[.slice A zs.length c, .int .i64 a, .int .i64 b] w fun e w' => e = .returned (.bool true) ∧ Below w.heap.size w w' := by
  have HK := Aside0.mk hK
  clear hK
  by_cases hl : (100 : Int) < zs.length
  · go_enter Try.func4, Try.ntmps4
    go_wp2_with fail
    refine (known_calls _).mono ?_
    rintro e w' ⟨rfl, hB⟩
    go_wp2
    go_ret
    exact ⟨rfl, hB⟩
  · have hl2 : zs.length ≤ 100 := by omega
    go_enter Try.func4, Try.ntmps4
    go_wp2_with fail
    refine (new_up _).mono ?_
    rintro e w1 ⟨rfl, hN, _⟩
    have HN := Aside0.mk hN
    clear hN
    go_wp2
    go_loopg [8, 9] zs.length (fun gk s8 s9 wr => ∃ (i : Nat) (vw : Value) (okn : Nat → Prop), i ≤ zs.length ∧ zs.length - i ≤ gk ∧ s9 = .int .i64 i ∧ s8 = vw ∧ Aside0 (NetUp wr w okn w.heap.size (msgsD zs i)) ∧ Aside0 (∀ k, some k = vw.ownBlock → ¬ okn k) ∧
      Aside0 (Kd.R (Kd.int .i64) 3 wr w.heap.size (fun k => some k = vw.ownBlock) vw ((wantN zs a b i).map Int.ofNat)))
    case atStart => exact ⟨0, _, _, Nat.zero_le _, by omega, rfl, rfl, HN, ⟨fun k hk => by cases hk⟩, ⟨Kd.R_nil _ _ _ _ _⟩⟩
    case round =>
      obtain ⟨i, vw, okn, hi, hgk, rfl, rfl, HN, HO, HW⟩ := hrel
      obtain ⟨Aw, cw, rfl⟩ := Kd.R_slice HW.out
      have hwl : ((wantN zs a b i).map Int.ofNat).length ≤ 100 := by
        rw [List.length_map]
        have := List.length_filter_le (fun j => !hit [a, b] (msgD zs j)) (List.range i)
        rw [List.length_range] at this
        unfold wantN; omega
      have HMS := Aside0.mk (msgsD_succ zs i)
      have HWS := Aside0.mk (wantN_succ zs a b i)
      have HML := Aside0.mk (msgsD_len zs i)
      have HMD : Aside0 (msgD zs i = ⟨bits BinOp.and IntKind.i64 (rd zs i) 3, bits BinOp.and IntKind.i64 (rd zs i / 4) 3, [IntKind.u8.wrap (i : Int)]⟩) := ⟨rfl⟩
      have HDR : Aside0 (dropL [a, b] (msgsD zs i) = (wantN zs a b i).map (msgD zs)) := ⟨drop_msgs zs a b i⟩
      generalize hmi : msgsD zs i = mi at HN HMS HML HDR
      generalize hwi : (wantN zs a b i) = wi at HW HO HWS HDR hwl ⊢
      obtain ⟨lw, hlw⟩ : ∃ lw, lw = wi.map Int.ofNat := ⟨_, rfl⟩
      rw [← hlw] at HW HO hwl ⊢
      have HLW := Aside0.mk hlw
      clear hlw hmi hwi
      by_cases hlt : i < zs.length
      · obtain ⟨gk, rfl⟩ : ∃ q, gk = q + 1 := ⟨gk - 1, by omega⟩
        obtain ⟨ad, rfl, hx⟩ := Kd.at_int HK.out (i : Int) (by omega) (by omega)
        have hx2 : wr.cell? (ad.add i) = some (.int .i64 (rd zs i)) := by
          rw [Int.toNat_natCast] at hx
          exact (HN.out.2.cell (cell_lt hx)).trans hx
        clear hx
        have hx3 : ∀ o, (wr.alloc o).cell? (ad.add i) = some (.int .i64 (rd zs i)) := fun o => Go.Lib.cell?_alloc_some o hx2
        have hx4 : ∀ o o2, ((wr.alloc o).alloc o2).cell? (ad.add i) = some (.int .i64 (rd zs i)) := fun o o2 => Go.Lib.cell?_alloc_some o2 (Go.Lib.cell?_alloc_some o hx2)
        generalize rd zs i = x at *
        go_wp2
        refine start_ (n := 17) (S := fun w' => w'.cell? (ad.add i) = some (.int .i64 x)) (ds := [16]) #[false, false, false, false, false, false, false, false, false, false, false, false, false, false, false, false, false] (by kernel_rfl) rfl rfl (hx2) (fun hHeld => ?_)
        refine pure_ (i := 0) (N := some 27) (v := ?_) (a' := ?_) #[true, false, false, false, false, false, false, false, false, false, false, false, false, false, false, false, false] rfl rfl (by kernel_rfl) (fun _ _ _ h => h) (Or.inl ⟨by rfl, ?_⟩) ?_ ?_
        rotate_left
        · intro w'
          go_simp
          with_reducible rfl
        rotate_left
        · simp only [Act.put, List.setIfInBounds_toArray, List.set_cons_zero, List.set_cons_succ, i64_w, i32_w]
          rfl
        refine pure_ (i := 1) (N := some 28) (v := ?_) (a' := ?_) #[true, true, false, false, false, false, false, false, false, false, false, false, false, false, false, false, false] rfl rfl (by kernel_rfl) (fun _ _ _ h => h) (Or.inl ⟨by rfl, ?_⟩) ?_ ?_
        rotate_left
        · intro w'
          go_simp
          with_reducible rfl
        rotate_left
        · simp only [Act.put, List.setIfInBounds_toArray, List.set_cons_zero, List.set_cons_succ, i64_w, i32_w]
          rfl
        refine pure_ (i := 2) (N := some 29) (v := ?_) (a' := ?_) #[true, true, true, false, false, false, false, false, false, false, false, false, false, false, false, false, false] rfl rfl (by kernel_rfl) (fun _ _ _ h => h) (Or.inl ⟨by rfl, ?_⟩) ?_ ?_
        rotate_left
        · intro w'
          go_simp
          with_reducible rfl
        rotate_left
        · simp only [Act.put, List.setIfInBounds_toArray, List.set_cons_zero, List.set_cons_succ, i64_w, i32_w]
          rfl
        refine pure_ (i := 5) (N := some 32) (v := ?_) (a' := ?_) #[true, true, true, false, false, true, false, false, false, false, false, false, false, false, false, false, false] rfl rfl (by kernel_rfl) (fun _ _ _ h => h) (Or.inl ⟨by rfl, ?_⟩) ?_ ?_
        rotate_left
        · intro w'
          go_simp
          with_reducible rfl
        rotate_left
        · simp only [Act.put, List.setIfInBounds_toArray, List.set_cons_zero, List.set_cons_succ, i64_w, i32_w]
          rfl
        refine pure_ (i := 6) (N := some 33) (v := ?_) (a' := ?_) #[true, true, true, false, false, true, true, false, false, false, false, false, false, false, false, false, false] rfl rfl (by kernel_rfl) (fun _ _ _ h => h) (Or.inl ⟨by rfl, ?_⟩) ?_ ?_
        rotate_left
        · intro w'
          go_simp
          with_reducible rfl
        rotate_left
        · simp only [Act.put, List.setIfInBounds_toArray, List.set_cons_zero, List.set_cons_succ, i64_w, i32_w]
          rfl
        refine pure_ (i := 7) (N := some 34) (v := ?_) (a' := ?_) #[true, true, true, false, false, true, true, true, false, false, false, false, false, false, false, false, false] rfl rfl (by kernel_rfl) (fun _ _ _ h => h) (Or.inl ⟨by rfl, ?_⟩) ?_ ?_
        rotate_left
        · intro w'
          go_simp
          with_reducible rfl
        rotate_left
        · simp only [Act.put, List.setIfInBounds_toArray, List.set_cons_zero, List.set_cons_succ, i64_w, i32_w]
          rfl
        refine pure_ (i := 11) (N := some 38) (v := ?_) (a' := ?_) #[true, true, true, false, false, true, true, true, false, false, false, true, false, false, false, false, false] rfl rfl (by kernel_rfl) (fun _ _ _ h => h) (Or.inl ⟨by rfl, ?_⟩) ?_ ?_
        rotate_left
        · intro w'
          go_simp
          with_reducible rfl
        rotate_left
        · simp only [Act.put, List.setIfInBounds_toArray, List.set_cons_zero, List.set_cons_succ, i64_w, i32_w]
          rfl
        refine pure_ (i := 12) (N := some 39) (v := ?_) (a' := ?_) #[true, true, true, false, false, true, true, true, false, false, false, true, true, false, false, false, false] rfl rfl (by kernel_rfl) (fun _ _ _ h => h) (Or.inl ⟨by rfl, ?_⟩) ?_ ?_
        rotate_left
        · intro w'
          go_simp
          with_reducible rfl
        rotate_left
        · simp only [Act.put, List.setIfInBounds_toArray, List.set_cons_zero, List.set_cons_succ, i64_w, i32_w]
          rfl
        refine take_ (i := 3) (N := some 30) (v := ?_) (a' := ?_) #[true, true, true, true, false, true, true, true, false, false, false, true, true, false, false, false, false] rfl rfl (by kernel_rfl) (fun _ _ _ h => h) (Or.inl ⟨by rfl, ?_⟩) hHeld ?_ ?_
        rotate_left
        · intro w' s0
          go_simp
          with_reducible rfl
        rotate_left
        · simp only [Act.put, List.setIfInBounds_toArray, List.set_cons_zero, List.set_cons_succ, i64_w, i32_w]
          rfl
        refine pure_ (i := 4) (N := some 31) (v := ?_) (a' := ?_) #[true, true, true, true, true, true, true, true, false, false, false, true, true, false, false, false, false] rfl rfl (by kernel_rfl) (fun _ _ _ h => h) (Or.inl ⟨by rfl, ?_⟩) ?_ ?_
        rotate_left
        · intro w'
          go_simp
          with_reducible rfl
        rotate_left
        · simp only [Act.put, List.setIfInBounds_toArray, List.set_cons_zero, List.set_cons_succ, i64_w, i32_w]
          rfl
        refine take_ (i := 8) (N := some 35) (v := ?_) (a' := ?_) #[true, true, true, true, true, true, true, true, true, false, false, true, true, false, false, false, false] rfl rfl (by kernel_rfl) (fun _ _ _ h => h) (Or.inl ⟨by rfl, ?_⟩) hHeld ?_ ?_
        rotate_left
        · intro w' s0
          go_simp
          with_reducible rfl
        rotate_left
        · simp only [Act.put, List.setIfInBounds_toArray, List.set_cons_zero, List.set_cons_succ, i64_w, i32_w]
          rfl
        refine pure_ (i := 9) (N := some 36) (v := ?_) (a' := ?_) #[true, true, true, true, true, true, true, true, true, true, false, true, true, false, false, false, false] rfl rfl (by kernel_rfl) (fun _ _ _ h => h) (Or.inl ⟨by rfl, ?_⟩) ?_ ?_
        rotate_left
        · intro w'
          go_simp
          with_reducible rfl
        rotate_left
        · simp only [Act.put, List.setIfInBounds_toArray, List.set_cons_zero, List.set_cons_succ, i64_w, i32_w]
          rfl
        refine pure_ (i := 10) (N := some 37) (v := ?_) (a' := ?_) #[true, true, true, true, true, true, true, true, true, true, true, true, true, false, false, false, false] rfl rfl (by kernel_rfl) (fun _ _ _ h => h) (Or.inl ⟨by rfl, ?_⟩) ?_ ?_
        rotate_left
        · intro w'
          go_simp
          with_reducible rfl
        rotate_left
        · simp only [Act.put, List.setIfInBounds_toArray, List.set_cons_zero, List.set_cons_succ, i64_w, i32_w]
          rfl
        refine join_ (σ := Nat × Nat) 1 #[true, true, true, true, true, true, true, true, true, true, true, true, true, true, true, true, false] (fun s_ => [(40, .slice (some ⟨s_.2, 0, none⟩) 1 1), (10, .pointer (some ⟨s_.1, 0, none⟩)), (41, .agg #[.int .i64 (bits BinOp.and IntKind.i64 x 3), .int .i64 (bits BinOp.and IntKind.i64 (x / 4) 3), .slice (some ⟨s_.2, 0, none⟩) 1 1])]) (fun s_ w' => (w'.cell? (ad.add i) = some (.int .i64 x)) ∧ Fork wr w' s_.1 s_.2 (.cells #[.int .i64 0, .int .i64 0, .slice none 0 0] 28 (0, 0)) (.cells #[.int .u8 (IntKind.u8.wrap (i : Int))] 5 (0, 0))) ?_ ?_
        rotate_left
        · intro hCont
          refine two_ (i := 13) (j := 15) (Ni := some 40) (Nj := some 10) #[true, true, true, true, true, true, true, true, true, true, true, true, true, true, false, false, false] #[true, true, true, true, true, true, true, true, true, true, true, true, true, false, false, true, false] rfl rfl rfl rfl (by kernel_rfl) (by decide) (by decide) (fun K hK => ?_) (fun K hK => ?_)
          · skip
            refine value_ (w1 := ?_) (v := ?_) (by rfl) rfl ?_ ?_
            rotate_left 2
            · go_simp
              constructor
              · rfl
              · rfl
            refine hK.out _ _ ((Go.Lib.cell?_alloc_some _ hHeld)) (fun hHeld => ?_)
            clear hK K
            refine norm_ (a' := ?_) ?_ ?_
            rotate_left
            · show Act.put _ (some 40) _ = _
              simp only [Act.put, List.setIfInBounds_toArray, List.set_cons_zero, List.set_cons_succ, i64_w, i32_w]
              rfl
            refine pure_ (i := 14) (N := some 41) (v := ?_) (a' := ?_) #[true, true, true, true, true, true, true, true, true, true, true, true, true, true, true, false, false] rfl rfl (by kernel_rfl) (fun _ _ _ h => h) (Or.inl ⟨by rfl, ?_⟩) ?_ ?_
            rotate_left
            · intro w'
              go_simp
              with_reducible rfl
            rotate_left
            · simp only [Act.put, List.setIfInBounds_toArray, List.set_cons_zero, List.set_cons_succ, i64_w, i32_w]
              rfl
            refine one_ (i := 15) (N := some 10) #[true, true, true, true, true, true, true, true, true, true, true, true, true, true, true, true, false] rfl rfl (by kernel_rfl) (by decide) (fun K hK => ?_)
            refine value_ (w1 := ?_) (v := ?_) (by rfl) rfl ?_ ?_
            rotate_left 2
            · go_simp
              constructor
              · rfl
              · rfl
            refine hK.out _ _ ((Go.Lib.cell?_alloc_some _ hHeld)) (fun hHeld => ?_)
            clear hK K
            refine norm_ (a' := ?_) ?_ ?_
            rotate_left
            · show Act.put _ (some 10) _ = _
              simp only [Act.put, List.setIfInBounds_toArray, List.set_cons_zero, List.set_cons_succ, i64_w, i32_w]
              rfl
            exact norm_ (by simp only [putAll, Act.put, List.setIfInBounds_toArray, List.set_cons_zero, List.set_cons_succ]) (hCont (wr.heap.size + 1, wr.heap.size) _ ⟨hHeld, fork_1 wr _ _⟩)
          · skip
            refine value_ (w1 := ?_) (v := ?_) (by rfl) rfl ?_ ?_
            rotate_left 2
            · go_simp
              constructor
              · rfl
              · rfl
            refine hK.out _ _ ((Go.Lib.cell?_alloc_some _ hHeld)) (fun hHeld => ?_)
            clear hK K
            refine norm_ (a' := ?_) ?_ ?_
            rotate_left
            · show Act.put _ (some 10) _ = _
              simp only [Act.put, List.setIfInBounds_toArray, List.set_cons_zero, List.set_cons_succ, i64_w, i32_w]
              rfl
            refine one_ (i := 13) (N := some 40) #[true, true, true, true, true, true, true, true, true, true, true, true, true, true, false, true, false] rfl rfl (by kernel_rfl) (by decide) (fun K hK => ?_)
            refine value_ (w1 := ?_) (v := ?_) (by rfl) rfl ?_ ?_
            rotate_left 2
            · go_simp
              constructor
              · rfl
              · rfl
            refine hK.out _ _ ((Go.Lib.cell?_alloc_some _ hHeld)) (fun hHeld => ?_)
            clear hK K
            refine norm_ (a' := ?_) ?_ ?_
            rotate_left
            · show Act.put _ (some 40) _ = _
              simp only [Act.put, List.setIfInBounds_toArray, List.set_cons_zero, List.set_cons_succ, i64_w, i32_w]
              rfl
            refine pure_ (i := 14) (N := some 41) (v := ?_) (a' := ?_) #[true, true, true, true, true, true, true, true, true, true, true, true, true, true, true, true, false] rfl rfl (by kernel_rfl) (fun _ _ _ h => h) (Or.inl ⟨by rfl, ?_⟩) ?_ ?_
            rotate_left
            · intro w'
              go_simp
              with_reducible rfl
            rotate_left
            · simp only [Act.put, List.setIfInBounds_toArray, List.set_cons_zero, List.set_cons_succ, i64_w, i32_w]
              rfl
            exact norm_ (by simp only [putAll, Act.put, List.setIfInBounds_toArray, List.set_cons_zero, List.set_cons_succ]) (hCont (wr.heap.size, wr.heap.size + 1) _ ⟨hHeld, fork_2 wr _ _⟩)
        rintro ⟨md, dd⟩ W5 ⟨hS_, hFk⟩
        have hHeld : W5.cell? (ad.add i) = some (.int .i64 x) := hS_
        have m0 := (blk_cell hFk.m 0).trans rfl
        have m1 := (blk_cell hFk.m 1).trans rfl
        have m2 := (blk_cell hFk.m 2).trans rfl
        have q0 := blk_frozen hFk.m 0
        have q1 := blk_frozen hFk.m 1
        have q2 := blk_frozen hFk.m 2
        have HFK := Aside0.mk hFk
        clear hFk
        refine norm_ (a' := ?_) ?_ ?_
        rotate_left
        · simp only [putAll, Act.put, List.setIfInBounds_toArray, List.set_cons_zero, List.set_cons_succ]
          rfl
        refine last_ (i := 16) (N := none) #[true, true, true, true, true, true, true, true, true, true, true, true, true, true, true, true, true] rfl rfl (by kernel_rfl) (by decide) (fun K hK => ?_)
        refine skip_ (w1 := ?_) (by rfl) rfl ?_ ?_
        rotate_left
        · go_simp
          rfl
        refine hK.out _ _ ?_
        clear hK K
        refine done_ (by kernel_rfl) ?_
        obtain ⟨y0, hy0⟩ : ∃ y, y = bits BinOp.and IntKind.i64 x 3 := ⟨_, rfl⟩
        obtain ⟨y1, hy1⟩ : ∃ y, y = bits BinOp.and IntKind.i64 (x / 4) 3 := ⟨_, rfl⟩
        obtain ⟨y2, hy2⟩ : ∃ y, y = IntKind.u8.wrap (i : Int) := ⟨_, rfl⟩
        rw [← hy0, ← hy1, ← hy2]
        have HMD2 : Aside0 (msgD zs i = ⟨y0, y1, [y2]⟩) := ⟨by rw [HMD.out, hy0, hy1, hy2]⟩
        rw [← hy2] at HFK
        have hmd : (((W5.setCell ⟨md, 0, none⟩ (.int .i64 y0)).setCell ⟨md, 1, none⟩ (.int .i64 y1)).setCell ⟨md, 2, none⟩ (.slice (some ⟨dd, 0, none⟩) 1 1)).heap[md]? = some (.cells #[.int .i64 y0, .int .i64 y1, .slice (some ⟨dd, 0, none⟩) 1 1] 28 (0, 0)) := by simpa using blk_set (blk_set (blk_set HFK.out.m 0 (.int .i64 y0)) 1 (.int .i64 y1)) 2 (.slice (some ⟨dd, 0, none⟩) 1 1)
        have hdd := blk_far (p := ⟨md, 2, none⟩) (blk_far (p := ⟨md, 1, none⟩) (blk_far (p := ⟨md, 0, none⟩) HFK.out.d (Ne.symm HFK.out.ne) (.int .i64 y0)) (Ne.symm HFK.out.ne) (.int .i64 y1)) (Ne.symm HFK.out.ne) (.slice (some ⟨dd, 0, none⟩) 1 1)
        have hb6 : Below wr.heap.size wr (((W5.setCell ⟨md, 0, none⟩ (.int .i64 y0)).setCell ⟨md, 1, none⟩ (.int .i64 y1)).setCell ⟨md, 2, none⟩ (.slice (some ⟨dd, 0, none⟩) 1 1)) := ((HFK.out.b.setCell HFK.out.hm _).setCell HFK.out.hm _).setCell HFK.out.hm _
        have hmm := HFK.out.hm
        have hdm := HFK.out.hd
        clear m0 m1 m2 q0 q1 q2 HFK hy0 hy1 hy2 HMD hx2 hx3 hx4 hHeld
        generalize (((W5.setCell ⟨md, 0, none⟩ (.int .i64 y0)).setCell ⟨md, 1, none⟩ (.int .i64 y1)).setCell ⟨md, 2, none⟩ (.slice (some ⟨dd, 0, none⟩) 1 1)) = W6 at *
        have HMDB := Aside0.mk hmd
        have HDDB := Aside0.mk hdd
        have HB6 := Aside0.mk hb6
        have m0 : ∀ o, (W6.alloc o).cell? ⟨md, 0, none⟩ = some (.int .i64 y0) := fun o => (blk_cell (blk_alloc hmd o) 0).trans rfl
        have m1 : ∀ o, (W6.alloc o).cell? ⟨md, 1, none⟩ = some (.int .i64 y1) := fun o => (blk_cell (blk_alloc hmd o) 1).trans rfl
        have m2 : ∀ o, (W6.alloc o).cell? ⟨md, 2, none⟩ = some (.slice (some ⟨dd, 0, none⟩) 1 1) := fun o => (blk_cell (blk_alloc hmd o) 2).trans rfl
        have n0 : W6.cell? ⟨md, 0, none⟩ = some (.int .i64 y0) := (blk_cell hmd 0).trans rfl
        have n1 : W6.cell? ⟨md, 1, none⟩ = some (.int .i64 y1) := (blk_cell hmd 1).trans rfl
        have n2 : W6.cell? ⟨md, 2, none⟩ = some (.slice (some ⟨dd, 0, none⟩) 1 1) := (blk_cell hmd 2).trans rfl
        clear hmd hdd hb6
        go_wp2_with fail
        refine (send_up ((HN.out.bound.below HB6.out).alloc _) (some ⟨W6.heap.size, 0, none⟩) 1 [⟨y0, y1, [y2]⟩] (reads_lit (x := ⟨y0, y1, [y2]⟩) (reads_byte y2 (blk_alloc HDDB.out _) (fun h => by have := h.2.2; omega)) (by simp) (heap_alloc_new W6 _) (fun h => by have := h.2.2; have := HB6.out.size; omega)) (by simp) (by simp) (by rw [HML.out]; omega)).mono ?_
        rintro e w7 ⟨rfl, hN7, hK7⟩
        have hmd7 := (hK7.2 md (by have := blk_lt HMDB.out; simp; omega) (fun h => by have := h.2.2; omega)).trans (blk_alloc HMDB.out _)
        have HN7 : Aside0 (NetUp w7 w (fun k => okn k ∨ wr.heap.size ≤ k) w.heap.size (msgsD zs (i + 1))) := ⟨by
          have h := hN7.mono (ok' := fun k => okn k ∨ wr.heap.size ≤ k) (fun k hk => hk.elim (fun h => .inl h.1) (fun h => .inr (by have := HB6.out.size; simp at h; omega)))
          rw [show manyOf mi.length [(⟨y0, y1, [y2]⟩ : S28)].length = 1 from by rw [HML.out]; unfold manyOf; simp; omega] at h
          rw [HMS.out, HMD2.out]
          exact h⟩
        have HW7 : Aside0 (Kd.R (Kd.int .i64) 3 w7 w.heap.size (fun k => some k = (Value.slice Aw lw.length cw).ownBlock) (.slice Aw lw.length cw) lw) := ⟨R_reads_step (Kd.R_alloc (Kd.R_below HW.out HB6.out) _) hK7 (fun k hk h => HO.out k hk h.1)⟩
        have HO7 : Aside0 (∀ k, some k = (Value.slice Aw lw.length cw).ownBlock → ¬ (okn k ∨ wr.heap.size ≤ k)) := ⟨fun k hk h => h.elim (HO.out k hk) (fun h => by have := Kd.R_lt HW.out k hk.symm; omega)⟩
        have m0 : w7.cell? ⟨md, 0, none⟩ = some (.int .i64 y0) := (blk_cell hmd7 0).trans rfl
        have m1 : w7.cell? ⟨md, 1, none⟩ = some (.int .i64 y1) := (blk_cell hmd7 1).trans rfl
        have m2 : w7.cell? ⟨md, 2, none⟩ = some (.slice (some ⟨dd, 0, none⟩) 1 1) := (blk_cell hmd7 2).trans rfl
        clear hN7 hK7 hmd7 n0 n1 n2 HMDB HDDB
        by_cases hany : y0 = a ∨ y1 = a ∨ y0 = b ∨ y1 = b
        · have hhit : hit [a, b] (msgD zs i) = true := by
            rw [HMD2.out]
            simp only [hit, List.contains_cons, List.contains_nil, Bool.or_false, Bool.or_eq_true, beq_iff_eq]
            rcases hany with h | h | h | h <;> simp [h]
          rw [if_pos hhit, List.append_nil] at HWS
          clear hhit
          by_cases h1 : y0 = a
          · go_wp2
            go_roundg gk
            case measure => omega
            case rel => exact ⟨i + 1, _, _, by omega, by omega, by go_num, rfl, HN7, HO7, ⟨by rw [HWS.out, ← HLW.out]; exact HW7.out⟩⟩
          · have b1 : (y0 == a) = false := beq_eq_false_iff_ne.2 h1
            by_cases h2 : y1 = a
            · go_wp2
              go_roundg gk
              case measure => omega
              case rel => exact ⟨i + 1, _, _, by omega, by omega, by go_num, rfl, HN7, HO7, ⟨by rw [HWS.out, ← HLW.out]; exact HW7.out⟩⟩
            · have b2 : (y1 == a) = false := beq_eq_false_iff_ne.2 h2
              by_cases h3 : y0 = b
              · go_wp2
                go_roundg gk
                case measure => omega
                case rel => exact ⟨i + 1, _, _, by omega, by omega, by go_num, rfl, HN7, HO7, ⟨by rw [HWS.out, ← HLW.out]; exact HW7.out⟩⟩
              · have b3 : (y0 == b) = false := beq_eq_false_iff_ne.2 h3
                have h4 : y1 = b := by rcases hany with h | h | h | h <;> first | exact absurd h h1 | exact absurd h h2 | exact absurd h h3 | exact h
                go_wp2
                go_roundg gk
                case measure => omega
                case rel => exact ⟨i + 1, _, _, by omega, by omega, by go_num, rfl, HN7, HO7, ⟨by rw [HWS.out, ← HLW.out]; exact HW7.out⟩⟩
        · simp only [not_or] at hany
          obtain ⟨h1, h2, h3, h4⟩ := hany
          have b1 : (y0 == a) = false := beq_eq_false_iff_ne.2 h1
          have b2 : (y1 == a) = false := beq_eq_false_iff_ne.2 h2
          have b3 : (y0 == b) = false := beq_eq_false_iff_ne.2 h3
          have b4 : (y1 == b) = false := beq_eq_false_iff_ne.2 h4
          have e1 : (y0 != a) = true := by simp [h1]
          have e2 : (y1 != a) = true := by simp [h2]
          have e3 : (y0 != b) = true := by simp [h3]
          have e4 : (y1 != b) = true := by simp [h4]
          have hhit : hit [a, b] (msgD zs i) = false := by
            rw [HMD2.out]
            simp [hit, h1, h2, h3, h4]
          rw [hhit] at HWS
          have HWS2 : Aside0 (wantN zs a b (i + 1) = wi ++ [i]) := ⟨HWS.out⟩
          clear hhit HWS
          go_wp2_with (first | ((with_reducible refine gate_builtin (b := .append) (xs := #[.tmp 68, .tmp 70]) rfl ?_); (try (refine gate_guard (by rfl) ?_; dsimp only)); at_builtin; refine Kd.R_append (Kd.int .i64) (w0 := w) w.heap.size rfl (.tmp 68) (.tmp 70) 36 3 (.int .i64 0) 8 rfl Try.underlying36 info3 rfl (by decide) (by omega) (.slice Aw lw.length cw) lw (i : Int) [.int .i64 (i : Int)] (fun _ => True) (fun _ => False) rfl rfl ?aP (fun _ hk => hk.elim) ?aF ?aO ?aB ?aS ?aL ?_; (case aP => exact rfl); (case aF => exact (fun _ _ => trivial)); (case aO => exact Kd.R_mono HW7.out (fun _ _ => trivial)); (case aB => exact HN7.out.2); (case aS => exact HN7.out.2.size); (case aL => omega); intro v1 w8 ho hb hg hat; obtain ⟨A8, c8, rfl⟩ := Kd.R_slice ho; have HR8 := Aside0.mk ho; have HG8 := Aside0.mk hg; have HB8 := Aside0.mk hb; have HA8 := Aside0.mk hat; clear ho hg hb hat))
          go_roundg gk
          case measure => omega
          case rel =>
            have hb7 := HN7.out.bound
            refine ⟨i + 1, .slice A8 (lw ++ [(i : Int)]).length c8, _, by omega, by omega, by go_num, by simp, ⟨hb7.kept (Kept.of_grown HG8.out (Kept.refl w7 (fun k => some k = (Value.slice Aw lw.length cw).ownBlock)) (fun q hq => .inl hq.symm)) (fun k hk h => HO7.out k h hk.1) HB8.out⟩, ⟨fun k hk h => ?_⟩, ⟨?_⟩⟩
            · rcases HA8.out with e | ⟨q, e, hq⟩
              · exact HO7.out k (hk.trans e) h.1
              · rw [e] at hk
                injection hk with hk
                have := h.2.2
                omega
            · rw [HWS2.out, List.map_append, ← HLW.out]
              exact int_own HR8.out
      · obtain rfl : i = zs.length := by omega
        clear HMS HWS HMD
        have HD : Aside0 (dropL [a, b] mi = wi.map (msgD zs)) := ⟨HDR.out⟩
        go_wp2_with fail
        refine (drop_up (HN.out.bound.alloc _) (some ⟨wr.heap.size, 0, none⟩) 2 [a, b] (reads_ints a b (heap_alloc_new wr _) (fun h => by have := h.2.2; omega))).mono ?_
        rintro e w2 ⟨rfl, hN2, hK2⟩
        have hwl2 : (wi.map (msgD zs)).length = lw.length := by rw [HLW.out, List.length_map, List.length_map]
        have hwl3 : lw.length ≤ 100 := hwl
        rw [HD.out] at hN2 ⊢
        rw [HML.out, hwl2]
        have HN2 := Aside0.mk (hN2.mono (ok' := fun k => okn k ∨ wr.heap.size ≤ k) (fun k hk => hk.elim (fun h => .inl h.1) (fun h => .inr (by simp at h; omega))))
        have HW2 : Aside0 (Kd.R (Kd.int .i64) 3 w2 w.heap.size (fun k => some k = (Value.slice Aw lw.length cw).ownBlock) (.slice Aw lw.length cw) lw) := ⟨R_reads_step (Kd.R_alloc HW.out _) hK2 (fun k hk h => HO.out k hk h.1)⟩
        have HO2 : Aside0 (∀ k, some k = (Value.slice Aw lw.length cw).ownBlock → ¬ (okn k ∨ wr.heap.size ≤ k)) := ⟨fun k hk h => h.elim (HO.out k hk) (fun h => by have := Kd.R_lt HW.out k hk.symm; omega)⟩
        have hL2 := len_up HN2.out
        rw [hwl2] at hL2
        have HL2 := Aside0.mk hL2
        have hD2 := drop_up HN2.out none 0 [] (fun W' _ => Kd.C_nil _ _)
        rw [show dropL [] (wi.map (msgD zs)) = wi.map (msgD zs) from by simp [dropL, hit], hwl2, Int.sub_self] at hD2
        have HD2 := Aside0.mk hD2
        have hsz2 : wr.heap.size ≤ w2.heap.size := by have := hK2.1; simp at this; omega
        clear hN2 hK2 hL2 hD2 hwl
        go_wp2_with fail
        refine HL2.out.mono ?_
        rintro e w3 ⟨rfl, rfl⟩
        go_wp2_with fail
        refine HD2.out.mono ?_
        rintro e w4 ⟨rfl, hN4, hK4⟩
        have HN4 := Aside0.mk (hN4.mono (ok' := fun k => okn k ∨ wr.heap.size ≤ k) (fun k hk => hk.elim id (fun h => .inr (by omega))))
        have HW4 : Aside0 (Kd.R (Kd.int .i64) 3 w4 w.heap.size (fun k => some k = (Value.slice Aw lw.length cw).ownBlock) (.slice Aw lw.length cw) lw) := ⟨R_reads_step HW2.out hK4 (fun k hk h => HO2.out k hk h)⟩
        clear hN4 hK4
        go_wp2
        go_loopg [11] lw.length (fun gk s11 wr => ∃ (i : Nat) (okl : Nat → Prop), i ≤ lw.length ∧ lw.length - i ≤ gk ∧ s11 = .int .i64 i ∧ Aside0 (NetUp wr w okl w.heap.size ((wi.map (msgD zs)).drop i)) ∧ Aside0 (∀ k, some k = (Value.slice Aw lw.length cw).ownBlock → ¬ okl k) ∧
          Aside0 (Kd.R (Kd.int .i64) 3 wr w.heap.size (fun k => some k = (Value.slice Aw lw.length cw).ownBlock) (.slice Aw lw.length cw) lw))
        case atStart => exact ⟨0, _, Nat.zero_le _, by omega, rfl, HN4, HO2, HW4⟩
        case round =>
          clear HN4 HW4 HO2 HN2 HW2 HD2 HL2 HN HO HW HD HDR
          obtain ⟨i, okl, hi, hgk, rfl, HN5, HO5, HW5⟩ := hrel
          by_cases hlt : i < lw.length
          · obtain ⟨gk, rfl⟩ : ∃ q, gk = q + 1 := ⟨gk - 1, by omega⟩
            have hiw : i < wi.length := by rw [HLW.out, List.length_map] at hlt; exact hlt
            obtain ⟨j, hj⟩ : ∃ j, wi[i]? = some j := ⟨wi[i], List.getElem?_eq_getElem hiw⟩
            have hd0 : 0 < ((wi.map (msgD zs)).drop i).length := by rw [List.length_drop, List.length_map]; omega
            have hgx : giveX 0 ((wi.map (msgD zs)).drop i) = msgD zs j := by
              rw [giveX_zero hd0]
              simp only [List.getD_eq_getElem?_getD, List.getElem?_drop, Nat.add_zero, List.getElem?_map, hj]
              rfl
            have hgl : giveL 0 ((wi.map (msgD zs)).drop i) = (wi.map (msgD zs)).drop (i + 1) := by rw [giveL_zero, List.drop_drop]
            have hrd : rd lw (i : Int) = (j : Int) := by
              rw [HLW.out]
              simp [rd, hj]
            have hf2 : (msgD zs j).f2 = [IntKind.u8.wrap (j : Int)] := rfl
            have hG := give_up HN5.out 0
            rw [hgl, hgx, hf2, show decide (0 < ((wi.map (msgD zs)).drop i).length) = true from decide_eq_true hd0] at hG
            have HG := Aside0.mk hG
            clear hG hgx hgl hd0 hf2 hj hiw
            generalize msgD zs j = z at HG
            go_wp2_with fail
            refine HG.out.mono ?_
            rintro e w5 ⟨A4, c4, okm, rfl, hR4, hokm, hN6, hK6⟩
            obtain ⟨adw, rfl, hw1⟩ := Kd.at_int (Kd.R_reads' (R_reads_step HW5.out hK6 (fun k hk h => HO5.out k hk h))).2.2 (i : Int) (by omega) (by omega)
            rw [hrd, Int.toNat_natCast] at hw1
            obtain ⟨ad4, rfl, hm1⟩ := Kd.at_int (Kd.R_reads' hR4).2.2 0 (by omega) (by simp)
            obtain ⟨g4, rfl⟩ := Kd.R_head hR4
            have hm2 : w5.cell? ⟨g4, 0, none⟩ = some (.int .u8 (IntKind.u8.wrap (j : Int))) := by simpa [rd, Addr.add] using hm1
            have HW6 : Aside0 (Kd.R (Kd.int .i64) 3 w5 w.heap.size (fun k => some k = (Value.slice (some adw) lw.length cw).ownBlock) (.slice (some adw) lw.length cw) lw) := ⟨R_reads_step HW5.out hK6 (fun k hk h => HO5.out k hk h)⟩
            have HN6 := Aside0.mk hN6
            have hw3 : ∀ o, (w5.alloc o).cell? (adw.add i) = some (.int .i64 (j : Int)) := fun o => Go.Lib.cell?_alloc_some o hw1
            have hm3 : ∀ o, (w5.alloc o).cell? ⟨g4, 0, none⟩ = some (.int .u8 (IntKind.u8.wrap (j : Int))) := fun o => Go.Lib.cell?_alloc_some o hm2
            clear hR4 hokm hN6 hK6 hm1 hm2 hw1
            go_wp2
            go_quiet (fail)
            go_wp2
            go_roundg gk
            case measure => omega
            case rel =>
              exact ⟨i + 1, _, by omega, by omega, by go_num, ⟨((HN6.out.alloc _).below (pw_below_drewN (Below.refl _ _) _))⟩, ⟨fun k hk h => HO5.out k hk h.1⟩, ⟨Kd.R_drewN (Kd.R_alloc HW6.out _) _⟩⟩
          · have hil : i = lw.length := by omega
            have hB := HN5.out.2
            have HB := Aside0.mk hB
            go_wp2_with (go_at_call 14; refine (known_calls _).mono ?_; rintro e w6 ⟨rfl, hB6⟩)
            go_ret
            exact ⟨rfl, HB.out.trans (hB6.mono HB.out.size)⟩
end Go.Proofs.Ytmindpofjnicfaa.Hand
