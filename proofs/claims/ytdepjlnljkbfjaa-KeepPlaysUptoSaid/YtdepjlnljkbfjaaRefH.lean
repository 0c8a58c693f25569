/- The reference's disk: Append. -/
import Derived.Test.YtdepjlnljkbfjaaRefE
namespace Go.Proofs.Ytdepjlnljkbfjaa.Hand
open Go.RowKit Go.Proofs.Ytdepjlnljkbfjaa.PA Go.Proofs.Ytdepjlnljkbfjaa.MapP Go.Proofs.YtdepjlnljkbfjaaW.PrintWords Go.Proofs.YtdepjlnljkbfjaaW.PrintLast Go.Proofs.YtdepjlnljkbfjaaW.PrintMore
attribute [local go_sem] max2_int min2_int
set_option linter.unusedVariables false
set_option linter.unusedSimpArgs false
set_option linter.unusedSectionVars false
section
variable {W W' W1 w w0 : World} {base r : Nat} {R R' : RV} {vL v : Value} {es es' : List RE} {e : RE} {ok : Nat → Prop} {g i c n : Nat}
def putR (L : List (Key × (List Int × Nat))) (k : Key) (y : List Int × Nat) : List (Key × (List Int × Nat)) := if spotB L k = true then L.set (spotN L k) (k, y) else L.take (spotN L k) ++ (k, y) :: L.drop (spotN L k)
def oldR (L : List (Key × (List Int × Nat))) (k : Key) : List Int × Nat := if spotB L k = true then getR L k else ([], 0)
def appendR (R : RV) (s : ByteArray) (xs : List Int) : Int × RV :=
  if mayR R.left [s] ≠ 0 then (mayR R.left [s], R)
  else if R.room < total R.L + xs.length ∨ (spotB R.L s.data.toList = false ∧ 4096 ≤ R.L.length) then (6, R)
  else (0, { R with left := didR R.left, L := putR R.L s.data.toList ((oldR R.L s.data.toList).1 ++ xs, (oldR R.L s.data.toList).2) })
theorem total_ins (L : List (Key × (List Int × Nat))) (i : Nat) (p : Key × (List Int × Nat)) : total (L.take i ++ p :: L.drop i) = total L + p.2.1.length := by
  have h : total L = total (L.take i) + total (L.drop i) := by rw [← total_app2, List.take_append_drop]
  rw [total_app2]
  simp only [total]
  omega
theorem append_fineR (hf : R.Fine) (s : ByteArray) (xs : List Int) : (appendR R s xs).2.Fine := by
  unfold appendR
  split
  · exact hf
  · split
    · exact hf
    · rename_i h0 h1
      have h3 : ¬ R.room < total R.L + xs.length := fun h => h1 (.inl h)
      unfold putR oldR
      split
      · rename_i h
        have hk := spotB_key h
        have hl := hf.lasts _ (List.mem_of_getElem? hk)
        simp only at hl
        exact hf.set hk (by simp only [List.length_append]; omega) (by have := hf.used; simp only [List.length_append]; omega) (didR_range hf.l0 hf.l1)
      · rename_i h
        have h2 : spotB R.L s.data.toList = false := by simpa using h
        have hr := didR_range hf.l0 hf.l1
        refine ⟨hf.r0, hf.r1, hr.1, hr.2, ?_, fun p hp => ?_, ?_⟩
        · simp only [total_ins, List.nil_append]
          omega
        · rcases List.mem_append.1 hp with hp | hp
          · exact hf.lasts p (List.mem_of_mem_take hp)
          · rcases List.mem_cons.1 hp with rfl | hp
            · simp
            · exact hf.lasts p (List.mem_of_mem_drop hp)
        · simp only [List.length_append, List.length_take, List.length_cons, List.length_drop]
          have h4 : ¬ 4096 ≤ R.L.length := fun h => h1 (.inr ⟨h2, h⟩)
          omega
theorem insTT {w4 : World} {i N : Nat} {s : ByteArray} {v8 : Value} (hp : IsRef w4 base r { R with L := (es.take i ++ (⟨s, .slice none 0 0, ([], 0)⟩ : RE) :: es.drop i).map keyR } v8 (es.take i ++ (⟨s, .slice none 0 0, ([], 0)⟩ : RE) :: es.drop i)) (hval : R.L = es.map keyR) (hk : Kept w w4 ok) (hb : Below w0.heap.size w0 w4)
    (hf : ∀ b ∈ footR r v8 (es.take i ++ (⟨s, .slice none 0 0, ([], 0)⟩ : RE) :: es.drop i), (ok b ∧ w0.heap.size ≤ b) ∨ N ≤ b) (hi : i ≤ es.length) (hii : i = spotN R.L s.data.toList) (hq : false = spotB R.L s.data.toList) :
    ∃ (g n1 c1 : Nat) (es4 : List RE) (e4 : RE) (L4 : List (Key × (List Int × Nat))), Aside0 (IsRef w4 base r { R with L := L4 } (.slice (some ⟨g, 0, none⟩) n1 c1) es4) ∧ Aside0 (es4[i]? = some e4) ∧ Aside0 (keyR e4 = (s.data.toList, oldR R.L s.data.toList)) ∧ Aside0 (∀ y, L4.set i (s.data.toList, y) = putR R.L s.data.toList y) ∧ Aside0 (Kept w w4 ok) ∧ Aside0 (Below w0.heap.size w0 w4) ∧
      Aside0 (∀ b ∈ footR r (.slice (some ⟨g, 0, none⟩) n1 c1) es4, (ok b ∧ w0.heap.size ≤ b) ∨ N ≤ b) ∧ Aside0 (es4.length ≤ es.length + 1) := by
  have hget : (es.take i ++ (⟨s, .slice none 0 0, ([], 0)⟩ : RE) :: es.drop i)[i]? = some ⟨s, .slice none 0 0, ([], 0)⟩ := by
    rw [List.getElem?_append_right (by rw [List.length_take]; omega), List.length_take, Nat.min_eq_left hi, Nat.sub_self]
    rfl
  obtain ⟨g, c, hv, _⟩ := hp.at_ hget
  subst hv
  refine ⟨g, _, c, _, _, _, ⟨hp⟩, ⟨hget⟩, ⟨?_⟩, ⟨fun y => ?_⟩, ⟨hk⟩, ⟨hb⟩, ⟨hf⟩, ⟨by rw [List.length_append, List.length_take, List.length_cons, List.length_drop]; omega⟩⟩
  · unfold oldR
    rw [← hq, if_neg (by simp)]
    rfl
  · unfold putR
    rw [← hq, if_neg (by simp), ← hii, List.map_append, List.map_cons, List.map_take, List.map_drop, ← hval]
    have hl : (R.L.take i).length = i := by rw [List.length_take, hval, List.length_map]; omega
    rw [List.set_append_right _ _ (by omega), hl, Nat.sub_self]
    rfl
theorem isTT {w4 : World} {i N : Nat} {s : ByteArray} (hp : IsRef w4 base r R vL es) (hk : Kept w w4 ok) (hb : Below w0.heap.size w0 w4) (hf : ∀ b ∈ footR r vL es, (ok b ∧ w0.heap.size ≤ b) ∨ N ≤ b) (hii : i = spotN R.L s.data.toList) (hq : true = spotB R.L s.data.toList) :
    ∃ (g n1 c1 : Nat) (es4 : List RE) (e4 : RE) (L4 : List (Key × (List Int × Nat))), Aside0 (IsRef w4 base r { R with L := L4 } (.slice (some ⟨g, 0, none⟩) n1 c1) es4) ∧ Aside0 (es4[i]? = some e4) ∧ Aside0 (keyR e4 = (s.data.toList, oldR R.L s.data.toList)) ∧ Aside0 (∀ y, L4.set i (s.data.toList, y) = putR R.L s.data.toList y) ∧ Aside0 (Kept w w4 ok) ∧ Aside0 (Below w0.heap.size w0 w4) ∧
      Aside0 (∀ b ∈ footR r (.slice (some ⟨g, 0, none⟩) n1 c1) es4, (ok b ∧ w0.heap.size ≤ b) ∨ N ≤ b) ∧ Aside0 (es4.length ≤ es.length + 1) := by
  have hkey := spotB_key hq.symm
  rw [← hii] at hkey
  have hlt : i < es.length := by have := (List.getElem?_eq_some_iff.1 hkey).1; rw [hp.len] at this; exact this
  obtain ⟨e, he⟩ : ∃ e, es[i]? = some e := ⟨_, List.getElem?_eq_getElem hlt⟩
  have hek : keyR e = (s.data.toList, getR R.L s.data.toList) := by have := hp.get he; rw [hkey] at this; injection this with this; exact this.symm
  obtain ⟨g, c, hv, _⟩ := hp.at_ he
  subst hv
  refine ⟨g, _, c, _, e, R.L, ⟨hp⟩, ⟨he⟩, ⟨?_⟩, ⟨fun y => ?_⟩, ⟨hk⟩, ⟨hb⟩, ⟨hf⟩, ⟨by omega⟩⟩
  · unfold oldR
    rw [← hq, if_pos rfl]
    exact hek
  · unfold putR
    rw [← hq, if_pos rfl, hii]
set_option maxRecDepth 100000 in
set_option maxHeartbeats 20000000 in
theorem appendR_calls (h : RefUp w w0 ok r R) (s : ByteArray) (hsz : s.size ≤ maxLen) (Ab : Option Addr) (cb : Nat) (xs : List Int) (hxs : ∀ W', Kept w W' ok → Kd.C (Kd.int .u8) W' Ab xs.length xs) (hxc : xs.length ≤ cb) (hxl : xs.length ≤ 140737488351232) :
    Calls Try.prog 32 #[.pointer (some ⟨r, 0, none⟩), .string s, .slice Ab xs.length cb] w fun e w' => e = .returned (.int .i64 (appendR R s xs).1) ∧ RefUp w' w0 (fun k => ok k ∨ w.heap.size ≤ k) r (appendR R s xs).2 ∧ Kept w w' ok := by
  have HFINE := Aside0.mk (append_fineR h.fine s xs)
  obtain ⟨res, hres⟩ : ∃ res, appendR R s xs = res := ⟨_, rfl⟩
  rw [hres] at HFINE ⊢
  have HD := Aside0.mk h
  obtain ⟨⟨vL, es, hi, hft⟩, hB0, hf⟩ := h
  have hm : es.length ≤ 4096 := by have := hf.many; rw [hi.len] at this; exact this
  have hia := hi.belowed ((Below.refl w.heap.size w).alloc (Nat.le_refl _) (.cells #[.string s] 9))
  have K1 := Aside0.mk (mayR_one hi s hsz)
  have K2 := Aside0.mk (spot_calls hia hm s)
  have HFT := Aside0.mk hft
  have HI := Aside0.mk hi
  have HFI := Aside0.mk hf
  obtain ⟨mv, hmv⟩ : ∃ mv, mv = mayR R.left [s] := ⟨_, rfl⟩
  have HR : Aside0 ((if mv ≠ 0 then (mv, R) else if R.room < total R.L + xs.length ∨ (spotB R.L s.data.toList = false ∧ 4096 ≤ R.L.length) then (6, R) else (0, { R with left := didR R.left, L := putR R.L s.data.toList ((oldR R.L s.data.toList).1 ++ xs, (oldR R.L s.data.toList).2) })) = res) := ⟨by rw [← hres, hmv]; rfl⟩
  rw [← hmv] at K1
  clear hi hft hB0 hf hia hmv hres
  by_cases hm0 : mv = 0
  case neg =>
    have HE : Aside0 ((mv, R) = res) := ⟨by rw [← HR.out, if_pos hm0]⟩
    obtain rfl := HE.out
    have hnb : (mv != 0) = true := by simpa using hm0
    clear hm0
    go_enter Try.func32, Try.ntmps32
    go_wp2_with fail
    refine K1.out.mono ?_
    rintro e w1 ⟨rfl, rfl⟩
    go_wp2
    go_ret
    exact ⟨rfl, (HD.out.alloc _).mono (fun _ h => .inl h), (Kept.refl _ _).alloc _⟩
  subst hm0
  rw [if_neg (by simp)] at HR
  have HXS := Aside0.mk hxs
  clear hxs
  obtain ⟨A0, c, hvL, hcc, hA0, hA0'⟩ := HI.out.slice
  obtain ⟨q, hq⟩ : ∃ q, q = spotB R.L s.data.toList := ⟨_, rfl⟩
  obtain ⟨i, hii⟩ : ∃ i, i = spotN R.L s.data.toList := ⟨_, rfl⟩
  rw [← hq, ← hii] at K2
  rw [← hq] at HR
  have hil : i ≤ es.length := by rw [hii, ← HI.out.len]; exact spotN_le _ _
  obtain ⟨n, hn⟩ : ∃ n, n = es.length := ⟨_, rfl⟩
  obtain ⟨m, hmx⟩ : ∃ m, m = xs.length := ⟨_, rfl⟩
  obtain ⟨tt, htt⟩ : ∃ tt, tt = total R.L := ⟨_, rfl⟩
  obtain ⟨room, hroom⟩ : ∃ room, room = R.room := ⟨_, rfl⟩
  have htr : tt ≤ 1073741824 := by have h1 := HFI.out.used; have h2 := HFI.out.r1; omega
  have hrr : 0 ≤ room ∧ room ≤ 1073741824 := by rw [hroom]; exact ⟨HFI.out.r0, HFI.out.r1⟩
  have HQ := Aside0.mk hq
  have HII := Aside0.mk hii
  have HN := Aside0.mk hn
  have HMX := Aside0.mk hmx
  have HTT := Aside0.mk htt
  have HRM := Aside0.mk hroom
  have HVL := Aside0.mk hvL
  have HA0 := Aside0.mk hA0
  have HA0' := Aside0.mk hA0'
  have hx63 := (HXS.out w (Kept.refl _ _)).2.1
  rw [← hn] at hcc hil hm
  rw [← hmx] at hxc hxl hx63 ⊢
  have HR2 : Aside0 ((if room < tt + m ∨ (q = false ∧ 4096 ≤ n) then (6, R) else (0, { R with left := didR R.left, L := putR R.L s.data.toList ((oldR R.L s.data.toList).1 ++ xs, (oldR R.L s.data.toList).2) })) = res) := ⟨by rw [hroom, htt, hmx, hn, ← HI.out.len]; exact HR.out⟩
  clear hq hii hn hmx htt hroom hvL hA0 hA0' HR
  go_enter Try.func32, Try.ntmps32
  go_wp2_with fail
  refine K1.out.mono ?_
  rintro e1 w1 ⟨rfl, rfl⟩
  go_wp2_with fail
  refine K2.out.mono ?_
  rintro e2 w2 ⟨rfl, hb2⟩
  have hb3 : Below w.heap.size w w2 := ((Below.refl _ _).alloc (Nat.le_refl _) _).trans (hb2.mono (by simp))
  have hi2 := HI.out.belowed (W' := w2.drew) (bdrew hb3)
  have HI2 := Aside0.mk hi2
  have HB3 := Aside0.mk hb3
  have hc0 : w2.drew.cell? ⟨r, 0, none⟩ = some (.int .i64 room) := by rw [HRM.out]; exact hi2.head.c0
  have hc1 : w2.drew.cell? ⟨r, 1, none⟩ = some (.slice A0 n c) := by rw [HN.out, ← HVL.out]; exact hi2.head.c1
  have hu := usedR_calls hi2 (by rw [← HTT.out]; exact htr) (by rw [← HN.out]; exact hm)
  rw [← HTT.out] at hu
  have HU := Aside0.mk hu
  clear hi2 hb2 hb3 hu
  have hwr : wrap64 ((tt : Int) + m) = (tt : Int) + m := by unfold wrap64; omega
  go_wp2
  by_cases hov : room < (tt : Int) + m
  case pos =>
    have HE : Aside0 ((6, R) = res) := ⟨by rw [← HR2.out, if_pos (.inl hov)]⟩
    obtain rfl := HE.out
    have hovb : decide (room < (tt : Int) + m) = true := decide_eq_true hov
    refine start_ (n := 22) (S := fun w' => w'.cell? ⟨r, 0, none⟩ = some (.int .i64 room) ∧ w'.cell? ⟨r, 1, none⟩ = some (.slice A0 n c)) (ds := []) #[false, false, false, false, false, false, false, false, false, false, false, false, false, false, false, false, false, false, false, false, false, false] (by kernel_rfl) rfl rfl ⟨hc0, hc1⟩ (fun hHeld => ?_)
    refine pure_ (i := 0) (N := some 24) (v := ?_) (a' := ?_) #[true, false, false, false, false, false, false, false, false, false, false, false, false, false, false, false, false, false, false, false, false, false] rfl rfl (by kernel_rfl) (fun _ _ _ h => h) (Or.inl ⟨by rfl, ?_⟩) ?_ ?_
    rotate_left
    · intro w'
      go_simp
      with_reducible rfl
    rotate_left
    · simp only [Act.put, List.setIfInBounds_toArray, List.set_cons_zero, List.set_cons_succ, i64_w, i32_w]
      rfl
    refine pure_ (i := 2) (N := some 26) (v := ?_) (a' := ?_) #[true, false, true, false, false, false, false, false, false, false, false, false, false, false, false, false, false, false, false, false, false, false] rfl rfl (by kernel_rfl) (fun _ _ _ h => h) (Or.inl ⟨by rfl, ?_⟩) ?_ ?_
    rotate_left
    · intro w'
      go_simp
      with_reducible rfl
    rotate_left
    · simp only [Act.put, List.setIfInBounds_toArray, List.set_cons_zero, List.set_cons_succ, i64_w, i32_w]
      rfl
    refine pure_ (i := 3) (N := some 27) (v := ?_) (a' := ?_) #[true, false, true, true, false, false, false, false, false, false, false, false, false, false, false, false, false, false, false, false, false, false] rfl rfl (by kernel_rfl) (fun _ _ _ h => h) (Or.inl ⟨by rfl, ?_⟩) ?_ ?_
    rotate_left
    · intro w'
      go_simp
      with_reducible rfl
    rotate_left
    · simp only [Act.put, List.setIfInBounds_toArray, List.set_cons_zero, List.set_cons_succ, i64_w, i32_w]
      rfl
    refine pure_ (i := 5) (N := some 29) (v := ?_) (a' := ?_) #[true, false, true, true, false, true, false, false, false, false, false, false, false, false, false, false, false, false, false, false, false, false] rfl rfl (by kernel_rfl) (fun _ _ _ h => h) (Or.inl ⟨by rfl, ?_⟩) ?_ ?_
    rotate_left
    · intro w'
      go_simp
      with_reducible rfl
    rotate_left
    · simp only [Act.put, List.setIfInBounds_toArray, List.set_cons_zero, List.set_cons_succ, i64_w, i32_w]
      rfl
    refine pure_ (i := 6) (N := some 30) (v := ?_) (a' := ?_) #[true, false, true, true, false, true, true, false, false, false, false, false, false, false, false, false, false, false, false, false, false, false] rfl rfl (by kernel_rfl) (fun _ _ _ h => h) (Or.inl ⟨by rfl, ?_⟩) ?_ ?_
    rotate_left
    · intro w'
      go_simp
      with_reducible rfl
    rotate_left
    · simp only [Act.put, List.setIfInBounds_toArray, List.set_cons_zero, List.set_cons_succ, i64_w, i32_w]
      rfl
    refine pure_ (i := 7) (N := some 31) (v := ?_) (a' := ?_) #[true, false, true, true, false, true, true, true, false, false, false, false, false, false, false, false, false, false, false, false, false, false] rfl rfl (by kernel_rfl) (fun _ _ _ h => h) (Or.inl ⟨by rfl, ?_⟩) ?_ ?_
    rotate_left
    · intro w'
      go_simp
      with_reducible rfl
    rotate_left
    · simp only [Act.put, List.setIfInBounds_toArray, List.set_cons_zero, List.set_cons_succ, i64_w, i32_w]
      rfl
    refine take_ (i := 8) (N := some 32) (v := ?_) (a' := ?_) #[true, false, true, true, false, true, true, true, true, false, false, false, false, false, false, false, false, false, false, false, false, false] rfl rfl (by kernel_rfl) (fun _ _ _ h => h) (Or.inl ⟨by rfl, ?_⟩) hHeld ?_ ?_
    rotate_left
    · rintro w' ⟨s0, s1⟩
      go_simp
      with_reducible rfl
    rotate_left
    · simp only [Act.put, List.setIfInBounds_toArray, List.set_cons_zero, List.set_cons_succ, i64_w, i32_w]
      rfl
    refine one_ (i := 1) (N := some 25) #[true, true, true, true, false, true, true, true, true, false, false, false, false, false, false, false, false, false, false, false, false, false] rfl rfl (by kernel_rfl) (by decide) (fun K hK => ?_)
    refine goes_ Try.func57 (by kernel_rfl) rfl #[.pointer (some ⟨r, 0, none⟩)] (by rfl) rfl rfl (by simp only [List.map_toArray, List.map_cons, List.map_nil]; rfl) ?_
    with_reducible refine (HU.out).mono ?_
    rintro e3 w3 ⟨rfl, rfl⟩
    refine ⟨_, rfl, ?_⟩
    refine hK.out _ _ ⟨hHeld.1, hHeld.2⟩ (fun hHeld => ?_)
    clear hK K
    refine norm_ (a' := ?_) ?_ ?_
    rotate_left
    · show Act.put _ (some 25) _ = _
      simp only [Act.put, List.setIfInBounds_toArray, List.set_cons_zero, List.set_cons_succ, i64_w, i32_w]
      rfl
    refine pure_ (i := 4) (N := some 28) (v := ?_) (a' := ?_) #[true, true, true, true, true, true, true, true, true, false, false, false, false, false, false, false, false, false, false, false, false, false] rfl rfl (by kernel_rfl) (fun _ _ _ h => h) (Or.inl ⟨by rfl, ?_⟩) ?_ ?_
    rotate_left
    · intro w'
      go_simp
      with_reducible rfl
    rotate_left
    · simp only [Act.put, List.setIfInBounds_toArray, List.set_cons_zero, List.set_cons_succ, i64_w, i32_w]
      rfl
    refine pure_ (i := 9) (N := some 33) (v := ?_) (a' := ?_) #[true, true, true, true, true, true, true, true, true, true, false, false, false, false, false, false, false, false, false, false, false, false] rfl rfl (by kernel_rfl) (fun _ _ _ h => h) (Or.inl ⟨by rfl, ?_⟩) ?_ ?_
    rotate_left
    · intro w'
      go_simp
      with_reducible rfl
    rotate_left
    · simp only [Act.put, List.setIfInBounds_toArray, List.set_cons_zero, List.set_cons_succ, i64_w, i32_w]
      rfl
    refine pure_ (i := 10) (N := some 34) (v := ?_) (a' := ?_) #[true, true, true, true, true, true, true, true, true, true, true, false, false, false, false, false, false, false, false, false, false, false] rfl rfl (by kernel_rfl) (fun _ _ _ h => h) (Or.inl ⟨by rfl, ?_⟩) ?_ ?_
    rotate_left
    · intro w'
      go_simp
      with_reducible rfl
    rotate_left
    · simp only [Act.put, List.setIfInBounds_toArray, List.set_cons_zero, List.set_cons_succ, i64_w, i32_w]
      rfl
    refine pure_ (i := 11) (N := some 35) (v := undef) (a' := ?_) #[true, true, true, true, true, true, true, true, true, true, true, true, false, false, false, false, false, false, false, false, false, false] rfl rfl (by kernel_rfl) (fun _ _ _ h => h) (Or.inr ⟨by rfl, rfl⟩) ?_ ?_
    rotate_left
    · simp only [Act.put, List.setIfInBounds_toArray, List.set_cons_zero, List.set_cons_succ, i64_w, i32_w]
      rfl
    refine pure_ (i := 12) (N := some 36) (v := undef) (a' := ?_) #[true, true, true, true, true, true, true, true, true, true, true, true, true, false, false, false, false, false, false, false, false, false] rfl rfl (by kernel_rfl) (fun _ _ _ h => h) (Or.inr ⟨by rfl, rfl⟩) ?_ ?_
    rotate_left
    · simp only [Act.put, List.setIfInBounds_toArray, List.set_cons_zero, List.set_cons_succ, i64_w, i32_w]
      rfl
    refine pure_ (i := 13) (N := some 37) (v := undef) (a' := ?_) #[true, true, true, true, true, true, true, true, true, true, true, true, true, true, false, false, false, false, false, false, false, false] rfl rfl (by kernel_rfl) (fun _ _ _ h => h) (Or.inr ⟨by rfl, rfl⟩) ?_ ?_
    rotate_left
    · simp only [Act.put, List.setIfInBounds_toArray, List.set_cons_zero, List.set_cons_succ, i64_w, i32_w]
      rfl
    refine pure_ (i := 14) (N := some 38) (v := undef) (a' := ?_) #[true, true, true, true, true, true, true, true, true, true, true, true, true, true, true, false, false, false, false, false, false, false] rfl rfl (by kernel_rfl) (fun _ _ _ h => h) (Or.inr ⟨by rfl, rfl⟩) ?_ ?_
    rotate_left
    · simp only [Act.put, List.setIfInBounds_toArray, List.set_cons_zero, List.set_cons_succ, i64_w, i32_w]
      rfl
    refine pure_ (i := 15) (N := some 39) (v := undef) (a' := ?_) #[true, true, true, true, true, true, true, true, true, true, true, true, true, true, true, true, false, false, false, false, false, false] rfl rfl (by kernel_rfl) (fun _ _ _ h => h) (Or.inr ⟨by rfl, rfl⟩) ?_ ?_
    rotate_left
    · simp only [Act.put, List.setIfInBounds_toArray, List.set_cons_zero, List.set_cons_succ, i64_w, i32_w]
      rfl
    refine pure_ (i := 16) (N := some 40) (v := undef) (a' := ?_) #[true, true, true, true, true, true, true, true, true, true, true, true, true, true, true, true, true, false, false, false, false, false] rfl rfl (by kernel_rfl) (fun _ _ _ h => h) (Or.inr ⟨by rfl, rfl⟩) ?_ ?_
    rotate_left
    · simp only [Act.put, List.setIfInBounds_toArray, List.set_cons_zero, List.set_cons_succ, i64_w, i32_w]
      rfl
    refine pure_ (i := 17) (N := some 41) (v := undef) (a' := ?_) #[true, true, true, true, true, true, true, true, true, true, true, true, true, true, true, true, true, true, false, false, false, false] rfl rfl (by kernel_rfl) (fun _ _ _ h => h) (Or.inr ⟨by rfl, rfl⟩) ?_ ?_
    rotate_left
    · simp only [Act.put, List.setIfInBounds_toArray, List.set_cons_zero, List.set_cons_succ, i64_w, i32_w]
      rfl
    refine pure_ (i := 18) (N := some 42) (v := undef) (a' := ?_) #[true, true, true, true, true, true, true, true, true, true, true, true, true, true, true, true, true, true, true, false, false, false] rfl rfl (by kernel_rfl) (fun _ _ _ h => h) (Or.inr ⟨by rfl, rfl⟩) ?_ ?_
    rotate_left
    · simp only [Act.put, List.setIfInBounds_toArray, List.set_cons_zero, List.set_cons_succ, i64_w, i32_w]
      rfl
    refine pure_ (i := 19) (N := some 43) (v := undef) (a' := ?_) #[true, true, true, true, true, true, true, true, true, true, true, true, true, true, true, true, true, true, true, true, false, false] rfl rfl (by kernel_rfl) (fun _ _ _ h => h) (Or.inr ⟨by rfl, rfl⟩) ?_ ?_
    rotate_left
    · simp only [Act.put, List.setIfInBounds_toArray, List.set_cons_zero, List.set_cons_succ, i64_w, i32_w]
      rfl
    refine pure_ (i := 20) (N := some 44) (v := undef) (a' := ?_) #[true, true, true, true, true, true, true, true, true, true, true, true, true, true, true, true, true, true, true, true, true, false] rfl rfl (by kernel_rfl) (fun _ _ _ h => h) (Or.inr ⟨by rfl, rfl⟩) ?_ ?_
    rotate_left
    · simp only [Act.put, List.setIfInBounds_toArray, List.set_cons_zero, List.set_cons_succ, i64_w, i32_w]
      rfl
    refine pure_ (i := 21) (N := some 45) (v := ?_) (a' := ?_) #[true, true, true, true, true, true, true, true, true, true, true, true, true, true, true, true, true, true, true, true, true, true] rfl rfl (by kernel_rfl) (fun _ _ _ h => h) (Or.inl ⟨by rfl, ?_⟩) ?_ ?_
    rotate_left
    · intro w'
      go_simp
      with_reducible rfl
    rotate_left
    · simp only [Act.put, List.setIfInBounds_toArray, List.set_cons_zero, List.set_cons_succ, i64_w, i32_w]
      rfl
    refine done_ (by kernel_rfl) ?_

    go_wp2
    go_ret
    exact ⟨rfl, (HD.out.quiet (bdrew HB3.out)).mono (fun _ h => .inl h), (Kept.refl _ _).below (bdrew HB3.out)⟩
  have hovb : decide (room < (tt : Int) + m) = false := decide_eq_false hov
  have hov2 : (tt : Int) + m ≤ room := by omega
  cases q
  case false =>
    by_cases hmany : 4096 ≤ n
    case pos =>
      have HE : Aside0 ((6, R) = res) := ⟨by rw [← HR2.out, if_pos (.inr ⟨rfl, hmany⟩)]⟩
      obtain rfl := HE.out
      have hmb : decide ((4096 : Int) ≤ n) = true := decide_eq_true (by omega)
      refine start_ (n := 22) (S := fun w' => w'.cell? ⟨r, 0, none⟩ = some (.int .i64 room) ∧ w'.cell? ⟨r, 1, none⟩ = some (.slice A0 n c)) (ds := []) #[false, false, false, false, false, false, false, false, false, false, false, false, false, false, false, false, false, false, false, false, false, false] (by kernel_rfl) rfl rfl ⟨hc0, hc1⟩ (fun hHeld => ?_)
      refine pure_ (i := 0) (N := some 24) (v := ?_) (a' := ?_) #[true, false, false, false, false, false, false, false, false, false, false, false, false, false, false, false, false, false, false, false, false, false] rfl rfl (by kernel_rfl) (fun _ _ _ h => h) (Or.inl ⟨by rfl, ?_⟩) ?_ ?_
      rotate_left
      · intro w'
        go_simp
        with_reducible rfl
      rotate_left
      · simp only [Act.put, List.setIfInBounds_toArray, List.set_cons_zero, List.set_cons_succ, i64_w, i32_w]
        rfl
      refine pure_ (i := 2) (N := some 26) (v := ?_) (a' := ?_) #[true, false, true, false, false, false, false, false, false, false, false, false, false, false, false, false, false, false, false, false, false, false] rfl rfl (by kernel_rfl) (fun _ _ _ h => h) (Or.inl ⟨by rfl, ?_⟩) ?_ ?_
      rotate_left
      · intro w'
        go_simp
        with_reducible rfl
      rotate_left
      · simp only [Act.put, List.setIfInBounds_toArray, List.set_cons_zero, List.set_cons_succ, i64_w, i32_w]
        rfl
      refine pure_ (i := 3) (N := some 27) (v := ?_) (a' := ?_) #[true, false, true, true, false, false, false, false, false, false, false, false, false, false, false, false, false, false, false, false, false, false] rfl rfl (by kernel_rfl) (fun _ _ _ h => h) (Or.inl ⟨by rfl, ?_⟩) ?_ ?_
      rotate_left
      · intro w'
        go_simp
        with_reducible rfl
      rotate_left
      · simp only [Act.put, List.setIfInBounds_toArray, List.set_cons_zero, List.set_cons_succ, i64_w, i32_w]
        rfl
      refine pure_ (i := 5) (N := some 29) (v := ?_) (a' := ?_) #[true, false, true, true, false, true, false, false, false, false, false, false, false, false, false, false, false, false, false, false, false, false] rfl rfl (by kernel_rfl) (fun _ _ _ h => h) (Or.inl ⟨by rfl, ?_⟩) ?_ ?_
      rotate_left
      · intro w'
        go_simp
        with_reducible rfl
      rotate_left
      · simp only [Act.put, List.setIfInBounds_toArray, List.set_cons_zero, List.set_cons_succ, i64_w, i32_w]
        rfl
      refine pure_ (i := 6) (N := some 30) (v := ?_) (a' := ?_) #[true, false, true, true, false, true, true, false, false, false, false, false, false, false, false, false, false, false, false, false, false, false] rfl rfl (by kernel_rfl) (fun _ _ _ h => h) (Or.inl ⟨by rfl, ?_⟩) ?_ ?_
      rotate_left
      · intro w'
        go_simp
        with_reducible rfl
      rotate_left
      · simp only [Act.put, List.setIfInBounds_toArray, List.set_cons_zero, List.set_cons_succ, i64_w, i32_w]
        rfl
      refine pure_ (i := 7) (N := some 31) (v := ?_) (a' := ?_) #[true, false, true, true, false, true, true, true, false, false, false, false, false, false, false, false, false, false, false, false, false, false] rfl rfl (by kernel_rfl) (fun _ _ _ h => h) (Or.inl ⟨by rfl, ?_⟩) ?_ ?_
      rotate_left
      · intro w'
        go_simp
        with_reducible rfl
      rotate_left
      · simp only [Act.put, List.setIfInBounds_toArray, List.set_cons_zero, List.set_cons_succ, i64_w, i32_w]
        rfl
      refine take_ (i := 8) (N := some 32) (v := ?_) (a' := ?_) #[true, false, true, true, false, true, true, true, true, false, false, false, false, false, false, false, false, false, false, false, false, false] rfl rfl (by kernel_rfl) (fun _ _ _ h => h) (Or.inl ⟨by rfl, ?_⟩) hHeld ?_ ?_
      rotate_left
      · rintro w' ⟨s0, s1⟩
        go_simp
        with_reducible rfl
      rotate_left
      · simp only [Act.put, List.setIfInBounds_toArray, List.set_cons_zero, List.set_cons_succ, i64_w, i32_w]
        rfl
      refine one_ (i := 1) (N := some 25) #[true, true, true, true, false, true, true, true, true, false, false, false, false, false, false, false, false, false, false, false, false, false] rfl rfl (by kernel_rfl) (by decide) (fun K hK => ?_)
      refine goes_ Try.func57 (by kernel_rfl) rfl #[.pointer (some ⟨r, 0, none⟩)] (by rfl) rfl rfl (by simp only [List.map_toArray, List.map_cons, List.map_nil]; rfl) ?_
      with_reducible refine (HU.out).mono ?_
      rintro e3 w3 ⟨rfl, rfl⟩
      refine ⟨_, rfl, ?_⟩
      refine hK.out _ _ ⟨hHeld.1, hHeld.2⟩ (fun hHeld => ?_)
      clear hK K
      refine norm_ (a' := ?_) ?_ ?_
      rotate_left
      · show Act.put _ (some 25) _ = _
        simp only [Act.put, List.setIfInBounds_toArray, List.set_cons_zero, List.set_cons_succ, i64_w, i32_w]
        rfl
      refine pure_ (i := 4) (N := some 28) (v := ?_) (a' := ?_) #[true, true, true, true, true, true, true, true, true, false, false, false, false, false, false, false, false, false, false, false, false, false] rfl rfl (by kernel_rfl) (fun _ _ _ h => h) (Or.inl ⟨by rfl, ?_⟩) ?_ ?_
      rotate_left
      · intro w'
        go_simp
        with_reducible rfl
      rotate_left
      · simp only [Act.put, List.setIfInBounds_toArray, List.set_cons_zero, List.set_cons_succ, i64_w, i32_w]
        rfl
      refine pure_ (i := 9) (N := some 33) (v := ?_) (a' := ?_) #[true, true, true, true, true, true, true, true, true, true, false, false, false, false, false, false, false, false, false, false, false, false] rfl rfl (by kernel_rfl) (fun _ _ _ h => h) (Or.inl ⟨by rfl, ?_⟩) ?_ ?_
      rotate_left
      · intro w'
        go_simp
        with_reducible rfl
      rotate_left
      · simp only [Act.put, List.setIfInBounds_toArray, List.set_cons_zero, List.set_cons_succ, i64_w, i32_w]
        rfl
      refine pure_ (i := 10) (N := some 34) (v := ?_) (a' := ?_) #[true, true, true, true, true, true, true, true, true, true, true, false, false, false, false, false, false, false, false, false, false, false] rfl rfl (by kernel_rfl) (fun _ _ _ h => h) (Or.inl ⟨by rfl, ?_⟩) ?_ ?_
      rotate_left
      · intro w'
        go_simp
        with_reducible rfl
      rotate_left
      · simp only [Act.put, List.setIfInBounds_toArray, List.set_cons_zero, List.set_cons_succ, i64_w, i32_w]
        rfl
      refine pure_ (i := 11) (N := some 35) (v := ?_) (a' := ?_) #[true, true, true, true, true, true, true, true, true, true, true, true, false, false, false, false, false, false, false, false, false, false] rfl rfl (by kernel_rfl) (fun _ _ _ h => h) (Or.inl ⟨by rfl, ?_⟩) ?_ ?_
      rotate_left
      · intro w'
        go_simp
        with_reducible rfl
      rotate_left
      · simp only [Act.put, List.setIfInBounds_toArray, List.set_cons_zero, List.set_cons_succ, i64_w, i32_w]
        rfl
      refine pure_ (i := 12) (N := some 36) (v := ?_) (a' := ?_) #[true, true, true, true, true, true, true, true, true, true, true, true, true, false, false, false, false, false, false, false, false, false] rfl rfl (by kernel_rfl) (fun _ _ _ h => h) (Or.inl ⟨by rfl, ?_⟩) ?_ ?_
      rotate_left
      · intro w'
        go_simp
        with_reducible rfl
      rotate_left
      · simp only [Act.put, List.setIfInBounds_toArray, List.set_cons_zero, List.set_cons_succ, i64_w, i32_w]
        rfl
      refine pure_ (i := 13) (N := some 37) (v := ?_) (a' := ?_) #[true, true, true, true, true, true, true, true, true, true, true, true, true, true, false, false, false, false, false, false, false, false] rfl rfl (by kernel_rfl) (fun _ _ _ h => h) (Or.inl ⟨by rfl, ?_⟩) ?_ ?_
      rotate_left
      · intro w'
        go_simp
        with_reducible rfl
      rotate_left
      · simp only [Act.put, List.setIfInBounds_toArray, List.set_cons_zero, List.set_cons_succ, i64_w, i32_w]
        rfl
      refine pure_ (i := 14) (N := some 38) (v := ?_) (a' := ?_) #[true, true, true, true, true, true, true, true, true, true, true, true, true, true, true, false, false, false, false, false, false, false] rfl rfl (by kernel_rfl) (fun _ _ _ h => h) (Or.inl ⟨by rfl, ?_⟩) ?_ ?_
      rotate_left
      · intro w'
        go_simp
        with_reducible rfl
      rotate_left
      · simp only [Act.put, List.setIfInBounds_toArray, List.set_cons_zero, List.set_cons_succ, i64_w, i32_w]
        rfl
      refine pure_ (i := 15) (N := some 39) (v := ?_) (a' := ?_) #[true, true, true, true, true, true, true, true, true, true, true, true, true, true, true, true, false, false, false, false, false, false] rfl rfl (by kernel_rfl) (fun _ _ _ h => h) (Or.inl ⟨by rfl, ?_⟩) ?_ ?_
      rotate_left
      · intro w'
        go_simp
        with_reducible rfl
      rotate_left
      · simp only [Act.put, List.setIfInBounds_toArray, List.set_cons_zero, List.set_cons_succ, i64_w, i32_w]
        rfl
      refine pure_ (i := 16) (N := some 40) (v := ?_) (a' := ?_) #[true, true, true, true, true, true, true, true, true, true, true, true, true, true, true, true, true, false, false, false, false, false] rfl rfl (by kernel_rfl) (fun _ _ _ h => h) (Or.inl ⟨by rfl, ?_⟩) ?_ ?_
      rotate_left
      · intro w'
        go_simp
        with_reducible rfl
      rotate_left
      · simp only [Act.put, List.setIfInBounds_toArray, List.set_cons_zero, List.set_cons_succ, i64_w, i32_w]
        rfl
      refine take_ (i := 17) (N := some 41) (v := ?_) (a' := ?_) #[true, true, true, true, true, true, true, true, true, true, true, true, true, true, true, true, true, true, false, false, false, false] rfl rfl (by kernel_rfl) (fun _ _ _ h => h) (Or.inl ⟨by rfl, ?_⟩) hHeld ?_ ?_
      rotate_left
      · rintro w' ⟨s0, s1⟩
        go_simp
        with_reducible rfl
      rotate_left
      · simp only [Act.put, List.setIfInBounds_toArray, List.set_cons_zero, List.set_cons_succ, i64_w, i32_w]
        rfl
      refine pure_ (i := 18) (N := some 42) (v := ?_) (a' := ?_) #[true, true, true, true, true, true, true, true, true, true, true, true, true, true, true, true, true, true, true, false, false, false] rfl rfl (by kernel_rfl) (fun _ _ _ h => h) (Or.inl ⟨by rfl, ?_⟩) ?_ ?_
      rotate_left
      · intro w'
        go_simp
        with_reducible rfl
      rotate_left
      · simp only [Act.put, List.setIfInBounds_toArray, List.set_cons_zero, List.set_cons_succ, i64_w, i32_w]
        rfl
      refine pure_ (i := 19) (N := some 43) (v := ?_) (a' := ?_) #[true, true, true, true, true, true, true, true, true, true, true, true, true, true, true, true, true, true, true, true, false, false] rfl rfl (by kernel_rfl) (fun _ _ _ h => h) (Or.inl ⟨by rfl, ?_⟩) ?_ ?_
      rotate_left
      · intro w'
        go_simp
        with_reducible rfl
      rotate_left
      · simp only [Act.put, List.setIfInBounds_toArray, List.set_cons_zero, List.set_cons_succ, i64_w, i32_w]
        rfl
      refine pure_ (i := 20) (N := some 44) (v := ?_) (a' := ?_) #[true, true, true, true, true, true, true, true, true, true, true, true, true, true, true, true, true, true, true, true, true, false] rfl rfl (by kernel_rfl) (fun _ _ _ h => h) (Or.inl ⟨by rfl, ?_⟩) ?_ ?_
      rotate_left
      · intro w'
        go_simp
        with_reducible rfl
      rotate_left
      · simp only [Act.put, List.setIfInBounds_toArray, List.set_cons_zero, List.set_cons_succ, i64_w, i32_w]
        rfl
      refine pure_ (i := 21) (N := some 45) (v := ?_) (a' := ?_) #[true, true, true, true, true, true, true, true, true, true, true, true, true, true, true, true, true, true, true, true, true, true] rfl rfl (by kernel_rfl) (fun _ _ _ h => h) (Or.inl ⟨by rfl, ?_⟩) ?_ ?_
      rotate_left
      · intro w'
        go_simp
        with_reducible rfl
      rotate_left
      · simp only [Act.put, List.setIfInBounds_toArray, List.set_cons_zero, List.set_cons_succ, i64_w, i32_w]
        rfl
      refine done_ (by kernel_rfl) ?_

      go_wp2
      go_ret
      exact ⟨rfl, (HD.out.quiet (bdrew HB3.out)).mono (fun _ h => .inl h), (Kept.refl _ _).below (bdrew HB3.out)⟩
    have hmb : decide ((4096 : Int) ≤ n) = false := decide_eq_false (by omega)
    have HE : Aside0 ((0, { R with left := didR R.left, L := putR R.L s.data.toList ((oldR R.L s.data.toList).1 ++ xs, (oldR R.L s.data.toList).2) }) = res) := ⟨by rw [← HR2.out, if_neg (by rintro (h | h) <;> omega)]⟩
    refine start_ (n := 22) (S := fun w' => w'.cell? ⟨r, 0, none⟩ = some (.int .i64 room) ∧ w'.cell? ⟨r, 1, none⟩ = some (.slice A0 n c)) (ds := []) #[false, false, false, false, false, false, false, false, false, false, false, false, false, false, false, false, false, false, false, false, false, false] (by kernel_rfl) rfl rfl ⟨hc0, hc1⟩ (fun hHeld => ?_)
    refine pure_ (i := 0) (N := some 24) (v := ?_) (a' := ?_) #[true, false, false, false, false, false, false, false, false, false, false, false, false, false, false, false, false, false, false, false, false, false] rfl rfl (by kernel_rfl) (fun _ _ _ h => h) (Or.inl ⟨by rfl, ?_⟩) ?_ ?_
    rotate_left
    · intro w'
      go_simp
      with_reducible rfl
    rotate_left
    · simp only [Act.put, List.setIfInBounds_toArray, List.set_cons_zero, List.set_cons_succ, i64_w, i32_w]
      rfl
    refine pure_ (i := 2) (N := some 26) (v := ?_) (a' := ?_) #[true, false, true, false, false, false, false, false, false, false, false, false, false, false, false, false, false, false, false, false, false, false] rfl rfl (by kernel_rfl) (fun _ _ _ h => h) (Or.inl ⟨by rfl, ?_⟩) ?_ ?_
    rotate_left
    · intro w'
      go_simp
      with_reducible rfl
    rotate_left
    · simp only [Act.put, List.setIfInBounds_toArray, List.set_cons_zero, List.set_cons_succ, i64_w, i32_w]
      rfl
    refine pure_ (i := 3) (N := some 27) (v := ?_) (a' := ?_) #[true, false, true, true, false, false, false, false, false, false, false, false, false, false, false, false, false, false, false, false, false, false] rfl rfl (by kernel_rfl) (fun _ _ _ h => h) (Or.inl ⟨by rfl, ?_⟩) ?_ ?_
    rotate_left
    · intro w'
      go_simp
      with_reducible rfl
    rotate_left
    · simp only [Act.put, List.setIfInBounds_toArray, List.set_cons_zero, List.set_cons_succ, i64_w, i32_w]
      rfl
    refine pure_ (i := 5) (N := some 29) (v := ?_) (a' := ?_) #[true, false, true, true, false, true, false, false, false, false, false, false, false, false, false, false, false, false, false, false, false, false] rfl rfl (by kernel_rfl) (fun _ _ _ h => h) (Or.inl ⟨by rfl, ?_⟩) ?_ ?_
    rotate_left
    · intro w'
      go_simp
      with_reducible rfl
    rotate_left
    · simp only [Act.put, List.setIfInBounds_toArray, List.set_cons_zero, List.set_cons_succ, i64_w, i32_w]
      rfl
    refine pure_ (i := 6) (N := some 30) (v := ?_) (a' := ?_) #[true, false, true, true, false, true, true, false, false, false, false, false, false, false, false, false, false, false, false, false, false, false] rfl rfl (by kernel_rfl) (fun _ _ _ h => h) (Or.inl ⟨by rfl, ?_⟩) ?_ ?_
    rotate_left
    · intro w'
      go_simp
      with_reducible rfl
    rotate_left
    · simp only [Act.put, List.setIfInBounds_toArray, List.set_cons_zero, List.set_cons_succ, i64_w, i32_w]
      rfl
    refine pure_ (i := 7) (N := some 31) (v := ?_) (a' := ?_) #[true, false, true, true, false, true, true, true, false, false, false, false, false, false, false, false, false, false, false, false, false, false] rfl rfl (by kernel_rfl) (fun _ _ _ h => h) (Or.inl ⟨by rfl, ?_⟩) ?_ ?_
    rotate_left
    · intro w'
      go_simp
      with_reducible rfl
    rotate_left
    · simp only [Act.put, List.setIfInBounds_toArray, List.set_cons_zero, List.set_cons_succ, i64_w, i32_w]
      rfl
    refine take_ (i := 8) (N := some 32) (v := ?_) (a' := ?_) #[true, false, true, true, false, true, true, true, true, false, false, false, false, false, false, false, false, false, false, false, false, false] rfl rfl (by kernel_rfl) (fun _ _ _ h => h) (Or.inl ⟨by rfl, ?_⟩) hHeld ?_ ?_
    rotate_left
    · rintro w' ⟨s0, s1⟩
      go_simp
      with_reducible rfl
    rotate_left
    · simp only [Act.put, List.setIfInBounds_toArray, List.set_cons_zero, List.set_cons_succ, i64_w, i32_w]
      rfl
    refine one_ (i := 1) (N := some 25) #[true, true, true, true, false, true, true, true, true, false, false, false, false, false, false, false, false, false, false, false, false, false] rfl rfl (by kernel_rfl) (by decide) (fun K hK => ?_)
    refine goes_ Try.func57 (by kernel_rfl) rfl #[.pointer (some ⟨r, 0, none⟩)] (by rfl) rfl rfl (by simp only [List.map_toArray, List.map_cons, List.map_nil]; rfl) ?_
    with_reducible refine (HU.out).mono ?_
    rintro e3 w3 ⟨rfl, rfl⟩
    refine ⟨_, rfl, ?_⟩
    refine hK.out _ _ ⟨hHeld.1, hHeld.2⟩ (fun hHeld => ?_)
    clear hK K
    refine norm_ (a' := ?_) ?_ ?_
    rotate_left
    · show Act.put _ (some 25) _ = _
      simp only [Act.put, List.setIfInBounds_toArray, List.set_cons_zero, List.set_cons_succ, i64_w, i32_w]
      rfl
    refine pure_ (i := 4) (N := some 28) (v := ?_) (a' := ?_) #[true, true, true, true, true, true, true, true, true, false, false, false, false, false, false, false, false, false, false, false, false, false] rfl rfl (by kernel_rfl) (fun _ _ _ h => h) (Or.inl ⟨by rfl, ?_⟩) ?_ ?_
    rotate_left
    · intro w'
      go_simp
      with_reducible rfl
    rotate_left
    · simp only [Act.put, List.setIfInBounds_toArray, List.set_cons_zero, List.set_cons_succ, i64_w, i32_w]
      rfl
    refine pure_ (i := 9) (N := some 33) (v := ?_) (a' := ?_) #[true, true, true, true, true, true, true, true, true, true, false, false, false, false, false, false, false, false, false, false, false, false] rfl rfl (by kernel_rfl) (fun _ _ _ h => h) (Or.inl ⟨by rfl, ?_⟩) ?_ ?_
    rotate_left
    · intro w'
      go_simp
      with_reducible rfl
    rotate_left
    · simp only [Act.put, List.setIfInBounds_toArray, List.set_cons_zero, List.set_cons_succ, i64_w, i32_w]
      rfl
    refine pure_ (i := 10) (N := some 34) (v := ?_) (a' := ?_) #[true, true, true, true, true, true, true, true, true, true, true, false, false, false, false, false, false, false, false, false, false, false] rfl rfl (by kernel_rfl) (fun _ _ _ h => h) (Or.inl ⟨by rfl, ?_⟩) ?_ ?_
    rotate_left
    · intro w'
      go_simp
      with_reducible rfl
    rotate_left
    · simp only [Act.put, List.setIfInBounds_toArray, List.set_cons_zero, List.set_cons_succ, i64_w, i32_w]
      rfl
    refine pure_ (i := 11) (N := some 35) (v := ?_) (a' := ?_) #[true, true, true, true, true, true, true, true, true, true, true, true, false, false, false, false, false, false, false, false, false, false] rfl rfl (by kernel_rfl) (fun _ _ _ h => h) (Or.inl ⟨by rfl, ?_⟩) ?_ ?_
    rotate_left
    · intro w'
      go_simp
      with_reducible rfl
    rotate_left
    · simp only [Act.put, List.setIfInBounds_toArray, List.set_cons_zero, List.set_cons_succ, i64_w, i32_w]
      rfl
    refine pure_ (i := 12) (N := some 36) (v := ?_) (a' := ?_) #[true, true, true, true, true, true, true, true, true, true, true, true, true, false, false, false, false, false, false, false, false, false] rfl rfl (by kernel_rfl) (fun _ _ _ h => h) (Or.inl ⟨by rfl, ?_⟩) ?_ ?_
    rotate_left
    · intro w'
      go_simp
      with_reducible rfl
    rotate_left
    · simp only [Act.put, List.setIfInBounds_toArray, List.set_cons_zero, List.set_cons_succ, i64_w, i32_w]
      rfl
    refine pure_ (i := 13) (N := some 37) (v := ?_) (a' := ?_) #[true, true, true, true, true, true, true, true, true, true, true, true, true, true, false, false, false, false, false, false, false, false] rfl rfl (by kernel_rfl) (fun _ _ _ h => h) (Or.inl ⟨by rfl, ?_⟩) ?_ ?_
    rotate_left
    · intro w'
      go_simp
      with_reducible rfl
    rotate_left
    · simp only [Act.put, List.setIfInBounds_toArray, List.set_cons_zero, List.set_cons_succ, i64_w, i32_w]
      rfl
    refine pure_ (i := 14) (N := some 38) (v := ?_) (a' := ?_) #[true, true, true, true, true, true, true, true, true, true, true, true, true, true, true, false, false, false, false, false, false, false] rfl rfl (by kernel_rfl) (fun _ _ _ h => h) (Or.inl ⟨by rfl, ?_⟩) ?_ ?_
    rotate_left
    · intro w'
      go_simp
      with_reducible rfl
    rotate_left
    · simp only [Act.put, List.setIfInBounds_toArray, List.set_cons_zero, List.set_cons_succ, i64_w, i32_w]
      rfl
    refine pure_ (i := 15) (N := some 39) (v := ?_) (a' := ?_) #[true, true, true, true, true, true, true, true, true, true, true, true, true, true, true, true, false, false, false, false, false, false] rfl rfl (by kernel_rfl) (fun _ _ _ h => h) (Or.inl ⟨by rfl, ?_⟩) ?_ ?_
    rotate_left
    · intro w'
      go_simp
      with_reducible rfl
    rotate_left
    · simp only [Act.put, List.setIfInBounds_toArray, List.set_cons_zero, List.set_cons_succ, i64_w, i32_w]
      rfl
    refine pure_ (i := 16) (N := some 40) (v := ?_) (a' := ?_) #[true, true, true, true, true, true, true, true, true, true, true, true, true, true, true, true, true, false, false, false, false, false] rfl rfl (by kernel_rfl) (fun _ _ _ h => h) (Or.inl ⟨by rfl, ?_⟩) ?_ ?_
    rotate_left
    · intro w'
      go_simp
      with_reducible rfl
    rotate_left
    · simp only [Act.put, List.setIfInBounds_toArray, List.set_cons_zero, List.set_cons_succ, i64_w, i32_w]
      rfl
    refine take_ (i := 17) (N := some 41) (v := ?_) (a' := ?_) #[true, true, true, true, true, true, true, true, true, true, true, true, true, true, true, true, true, true, false, false, false, false] rfl rfl (by kernel_rfl) (fun _ _ _ h => h) (Or.inl ⟨by rfl, ?_⟩) hHeld ?_ ?_
    rotate_left
    · rintro w' ⟨s0, s1⟩
      go_simp
      with_reducible rfl
    rotate_left
    · simp only [Act.put, List.setIfInBounds_toArray, List.set_cons_zero, List.set_cons_succ, i64_w, i32_w]
      rfl
    refine pure_ (i := 18) (N := some 42) (v := ?_) (a' := ?_) #[true, true, true, true, true, true, true, true, true, true, true, true, true, true, true, true, true, true, true, false, false, false] rfl rfl (by kernel_rfl) (fun _ _ _ h => h) (Or.inl ⟨by rfl, ?_⟩) ?_ ?_
    rotate_left
    · intro w'
      go_simp
      with_reducible rfl
    rotate_left
    · simp only [Act.put, List.setIfInBounds_toArray, List.set_cons_zero, List.set_cons_succ, i64_w, i32_w]
      rfl
    refine pure_ (i := 19) (N := some 43) (v := ?_) (a' := ?_) #[true, true, true, true, true, true, true, true, true, true, true, true, true, true, true, true, true, true, true, true, false, false] rfl rfl (by kernel_rfl) (fun _ _ _ h => h) (Or.inl ⟨by rfl, ?_⟩) ?_ ?_
    rotate_left
    · intro w'
      go_simp
      with_reducible rfl
    rotate_left
    · simp only [Act.put, List.setIfInBounds_toArray, List.set_cons_zero, List.set_cons_succ, i64_w, i32_w]
      rfl
    refine pure_ (i := 20) (N := some 44) (v := ?_) (a' := ?_) #[true, true, true, true, true, true, true, true, true, true, true, true, true, true, true, true, true, true, true, true, true, false] rfl rfl (by kernel_rfl) (fun _ _ _ h => h) (Or.inl ⟨by rfl, ?_⟩) ?_ ?_
    rotate_left
    · intro w'
      go_simp
      with_reducible rfl
    rotate_left
    · simp only [Act.put, List.setIfInBounds_toArray, List.set_cons_zero, List.set_cons_succ, i64_w, i32_w]
      rfl
    refine pure_ (i := 21) (N := some 45) (v := ?_) (a' := ?_) #[true, true, true, true, true, true, true, true, true, true, true, true, true, true, true, true, true, true, true, true, true, true] rfl rfl (by kernel_rfl) (fun _ _ _ h => h) (Or.inl ⟨by rfl, ?_⟩) ?_ ?_
    rotate_left
    · intro w'
      go_simp
      with_reducible rfl
    rotate_left
    · simp only [Act.put, List.setIfInBounds_toArray, List.set_cons_zero, List.set_cons_succ, i64_w, i32_w]
      rfl
    refine done_ (by kernel_rfl) ?_

    obtain ⟨w3, hw3⟩ : ∃ w3, w3 = w2.drew := ⟨_, rfl⟩
    have hi3 : IsRef w3 w0.heap.size r R (.slice A0 es.length c) es := by rw [hw3, ← HVL.out]; exact HI2.out
    have hb3 : Below w.heap.size w w3 := by rw [hw3]; exact bdrew HB3.out
    rw [← hw3] at hc1 ⊢
    have HI3 := Aside0.mk hi3
    have HB33 := Aside0.mk hb3
    have hnL : (A0 = none ∧ c = 0 ∧ n = 0) ∨ ∃ g, A0 = some ⟨g, 0, none⟩ := by
      rcases hi3.row.2 with ⟨hv, h0⟩ | ⟨g, cap, cur, hv, _⟩
      · injection hv with h1 h2 h3
        exact .inl ⟨h1, h3, by rw [HN.out]; exact h2⟩
      · injection hv with h1
        exact .inr ⟨g, h1⟩
    obtain ⟨A2, hA2e⟩ : ∃ A2 : Option Addr, A2 = if c = i then A0 else A0.map fun a => ⟨a.block, i * 3, none⟩ := ⟨_, rfl⟩
    obtain ⟨v6, W6, v7, W7, v8, W8, hr6, hr7, hr8, ho8, hb6, hb7, hb8, hw8, ⟨A6, c6, hs6⟩, ⟨A7, c7, hs7⟩, ⟨A8, n8, c8, hs8⟩⟩ := three_parts hi3 (Nat.le_trans HD.out.below.size hb3.size) (by rw [← HN.out]; exact hm) i (by rw [← HN.out]; exact hil) ⟨s, .slice none 0 0, ([], 0)⟩ rfl A2 c (c - i) (fun g hg => by
        rw [hA2e]
        split
        · right
          rw [← HN.out]
          omega
        · left
          rw [hg]
          rfl) (fun h0 => by rw [hA2e, h0]; split <;> rfl)
    subst hs6 hs7 hs8
    have h1a : (w3.alloc (.cells #[] 82)).cell? ⟨r, 1, none⟩ = _ := Go.Lib.cell?_alloc_some _ hc1
    have hc7 : W7.cell? ⟨r, 1, none⟩ = _ := cell_below hc1 hb7
    have hc8 : W8.cell? ⟨r, 1, none⟩ = _ := cell_below hc1 hb8
    have hh8 : HeadR W8 r R.room (.slice A0 es.length c) R.left := (hb8.block r (hi3.lt r (by simp [footR]))).trans hi3.head
    have hz8 : W8.frozen? ⟨r, 1, none⟩ = false := hh8.fz 1
    have hd8 : ∀ e ∈ es.take i ++ (⟨s, .slice none 0 0, ([], 0)⟩ : RE) :: es.drop i, Dat W8 e.v e.x.1 := fun e he => by
      rcases List.mem_append.1 he with he | he
      · exact (hi3.dat e (List.mem_of_mem_take he)).step (fun b hb => hb8.block b (hi3.lt b (mem_footR (List.mem_of_mem_take he) hb)))
      · rcases List.mem_cons.1 he with rfl | he
        · exact Dat.nil _
        · exact (hi3.dat e (List.mem_of_mem_drop he)).step (fun b hb => hb8.block b (hi3.lt b (mem_footR (List.mem_of_mem_drop he) hb)))
    have hp := IsRef.putL (R := R) hh8 ho8 hd8
    rw [← HN.out] at hr8
    have hilI : (i : Int) ≤ n := by omega
    have hicI : (i : Int) ≤ c := by omega
    have HP := Aside0.mk hp
    have HO8 := Aside0.mk ho8
    have HB8 := Aside0.mk hb8
    have HW8 := Aside0.mk hw8
    have hr : ok r ∧ w0.heap.size ≤ r := HFT.out r (by simp [footR])
    have HK4 : Aside0 (Kept w (W8.setCell ⟨r, 1, none⟩ (.slice A8 n8 c8)) ok) := ⟨(((Kept.refl w ok).below hb3).below hb8).setCell (p := ⟨r, 1, none⟩) (.inl hr.1) _⟩
    have HB4 : Aside0 (Below w0.heap.size w0 (W8.setCell ⟨r, 1, none⟩ (.slice A8 n8 c8))) := ⟨(HD.out.below.trans ((hb3.trans (hb8.mono hb3.size)).mono HD.out.below.size)).setCell (p := ⟨r, 1, none⟩) hr.2 _⟩
    have hf4 : ∀ b ∈ footR r (.slice A8 n8 c8) (es.take i ++ (⟨s, .slice none 0 0, ([], 0)⟩ : RE) :: es.drop i), (ok b ∧ w0.heap.size ≤ b) ∨ w.heap.size ≤ b := fun b hb => by
      unfold footR at hb
      simp only [List.mem_cons, List.mem_append, List.mem_flatMap] at hb
      rcases hb with rfl | hb | ⟨e', he', hb⟩
      · exact .inl hr
      · exact .inr (Nat.le_trans hb3.size (hw8 b (by simpa using hb)))
      · rcases he' with he' | rfl | he'
        · exact .inl (HFT.out b (mem_footR (List.mem_of_mem_take he') (by simpa using hb)))
        · simp [Value.ownBlock] at hb
        · exact .inl (HFT.out b (mem_footR (List.mem_of_mem_drop he') (by simpa using hb)))
    have HF4 := Aside0.mk hf4
    have HR6 := Aside0.mk hr6
    have HR7 := Aside0.mk hr7
    have HR8 := Aside0.mk hr8
    clear hi3 hb3 ho8 hb6 hb7 hb8 hw8 hh8 hd8 hp hr hf4 hw3 hr6 hr7 hr8 hmany
    rcases hnL with ⟨rfl, hc0, hn0⟩ | ⟨g, rfl⟩
    case inl =>
      have hci : c = i := by omega
      rw [if_pos hci] at hA2e
      subst hA2e
      clear hc0 hn0
      obtain rfl : i = c := hci.symm
      clear hci
      have hni : i = n := by omega
      subst hni
      have hr8s := HR8.out
      rw [Nat.sub_self] at hr8s
      have HR8s := Aside0.mk hr8s
      clear hr8s
      go_wp2_with (first | ((with_reducible refine gate_op (op := .buildSlice 77 0 #[]) rfl ?_); refine wpList_value_run (v := .slice (some ⟨w3.heap.size, 0, none⟩) 0 0) (w1 := w3.alloc (.cells #[] 82)) rfl (by go_simp) ?_) | ((with_reducible refine gate_builtin (b := .append) (xs := #[.tmp 48, .tmp 54]) rfl ?_); at_builtin; refine wpList_append_run rfl (.tmp 48) (.tmp 54) 77 rfl _ _ _ _ rfl rfl HR6.out ?_) | ((with_reducible refine gate_builtin (b := .append) (xs := #[.tmp 56, .tmp 59]) rfl ?_); at_builtin; refine wpList_append_run rfl (.tmp 56) (.tmp 59) 77 rfl _ _ _ _ rfl rfl HR7.out ?_) | ((with_reducible refine gate_builtin (b := .append) (xs := #[.tmp 62, .tmp 68]) rfl ?_); at_builtin; refine wpList_append_run rfl (.tmp 62) (.tmp 68) 77 rfl _ _ _ _ rfl rfl HR8s.out ?_))
      obtain ⟨w4, hw4⟩ : ∃ w4, w4 = W8.setCell ⟨r, 1, none⟩ (.slice A8 n8 c8) := ⟨_, rfl⟩
      rw [← hw4] at HP HK4 HB4 ⊢
      have TT := insTT HP.out HI.out.val HK4.out HB4.out HF4.out (by rw [← HN.out]; exact hil) HII.out HQ.out
      clear HP HK4 HB4 HF4 HR6 HR7 HR8 HR8s HO8 HB8 HW8 HI3 HB33 h1a hc7 hc8 hz8 hc1 hw4 HI2 HU
      as_aux_lemma =>
      obtain ⟨g, n1, c1, es4, e4, L4, HI4, HE4, HK4e, HPR, HK4, HB4, HF4, HL4⟩ := TT
      have hi4 : IsRef w4.drew w0.heap.size r { R with L := L4 } (.slice (some ⟨g, 0, none⟩) n1 c1) es4 := HI4.out.step (fun _ _ => rfl)
      have hkd : Kept w w4.drew ok := HK4.out.drew
      have hbd : Below w0.heap.size w0 w4.drew := bdrew HB4.out
      have HKD := Aside0.mk hkd
      have HBD := Aside0.mk hbd
      clear hkd hbd HI4
      obtain ⟨g', c', eg, hcc1, _, hv4, hx4, hz4⟩ := hi4.at_ HE4.out
      injection eg with eg en ec
      injection eg with eg
      injection eg with eg
      subst eg ec
      have HN1 := Aside0.mk en
      rw [← en] at hcc1
      have hlt4 : i < n1 := by rw [en]; exact (List.getElem?_eq_some_iff.1 HE4.out).1
      have hm4 : n1 ≤ 1048577 := by rw [en]; have := HL4.out; have := HN.out; omega
      have hc4 := hi4.head.c1
      have hdt := hi4.dat e4 (List.mem_of_getElem? HE4.out)
      obtain ⟨Ae, ce, hev, hce⟩ := hdt.slice
      have HEV := Aside0.mk hev
      have hx4e : e4.x = oldR R.L s.data.toList := congrArg Prod.snd HK4e.out
      have hnm4 : e4.nm.data.toList = s.data.toList := congrArg Prod.fst HK4e.out
      obtain ⟨me, hme⟩ : ∃ me, me = e4.x.1.length := ⟨_, rfl⟩
      have hml : me ≤ 1073741824 := by
        rw [hme, hx4e]
        unfold oldR
        split
        · rename_i h
          have h1 := total_take_succ (spotB_key h)
          have h2 := total_take_le R.L (spotN R.L s.data.toList + 1)
          have h3 := HFI.out.used
          have h4 := HFI.out.r1
          simp only at h1
          omega
        · simp
      rw [hev] at hv4 hdt
      rw [← hme] at hv4 hce
      have HX4 := Aside0.mk hx4e
      have HNM4 := Aside0.mk hnm4
      obtain ⟨A6, c6, W6, hr6, hd6, hb6, ho6⟩ := Dat.fresh (m := me) (c := ce) (hdt.C rfl) hme.symm (by omega)
      rw [← hme] at hr6 hd6 ho6
      have hk6 : Kept w W6 ok := HKD.out.below hb6
      obtain ⟨v7, W7, hr7, hd7, hg7, ho7⟩ := hd6.append 23 Ab m cb xs (HXS.out W6 hk6) HMX.out.symm (by omega)
      obtain ⟨A7, c7, hv7e, hc7⟩ := hd7.slice
      subst hv7e
      have hb7 : Below w4.drew.heap.size w4.drew W7 := hb6.grown hg7 hb6.size (fun k hk => ho6 k hk)
      have ho72 : ∀ b, (Value.slice A7 (e4.x.1 ++ xs).length c7).ownBlock = some b → w4.drew.heap.size ≤ b := fun b hb => ho7.elim (fun h => ho6 b (by rw [← h]; exact hb)) (fun h => Nat.le_trans hb6.size (h b hb))
      have hc6 : W6.cell? ⟨r, 1, none⟩ = _ := cell_below hc4 hb6
      have hv6 : W6.cell? ⟨g, i * 3 + 1, none⟩ = _ := cell_below hv4 hb6
      have hc7w : W7.cell? ⟨r, 1, none⟩ = _ := cell_below hc4 hb7
      have hv7w : W7.cell? ⟨g, i * 3 + 1, none⟩ = _ := cell_below hv4 hb7
      have hi7 := hi4.belowed hb7
      obtain ⟨g', c', eg, _, _, _, _, hz7⟩ := hi7.at_ HE4.out
      injection eg with eg en7 ec
      injection eg with eg
      injection eg with eg
      subst eg ec
      have hz71 := hz7 (i * 3 + 1)
      have hp7 := hi7.putV HE4.out hd7
      have HP7 := Aside0.mk hp7
      have HRUN6 := Aside0.mk hr6
      have HRUN7 := Aside0.mk hr7
      have HC6 := Aside0.mk hc6
      have HV6 := Aside0.mk hv6
      have HC7 := Aside0.mk hc7w
      have HV7 := Aside0.mk hv7w
      have HB7 := Aside0.mk hb7
      have HO7 := Aside0.mk ho72
      have hi1 : (i : Int) < n1 := by omega
      have HI1 := Aside0.mk hi1
      clear hr6 hr7 hd6 hb6 ho6 hd7 hg7 ho7 hb7 ho72 hi7 hp7 hz7 hdt hev hx4 hz4 hi4 hme hc7w hv7w hk6 hx4e hnm4 en en7
      go_wp2
      refine start_ (n := 20) (S := fun w' => w'.cell? ⟨r, 1, none⟩ = some (.slice (some ⟨g, 0, none⟩) n1 c1) ∧ w'.cell? ⟨g, i * 3 + 1, none⟩ = some (.slice Ae me ce)) (ds := [19]) #[false, false, false, false, false, false, false, false, false, false, false, false, false, false, false, false, false, false, false, false] (by kernel_rfl) rfl rfl ⟨hc4, hv4⟩ (fun hHeld => ?_)
      refine pure_ (i := 0) (N := some 72) (v := ?_) (a' := ?_) #[true, false, false, false, false, false, false, false, false, false, false, false, false, false, false, false, false, false, false, false] rfl rfl (by kernel_rfl) (fun _ _ _ h => h) (Or.inl ⟨by rfl, ?_⟩) ?_ ?_
      rotate_left
      · intro w'
        go_simp
        with_reducible rfl
      rotate_left
      · simp only [Act.put, List.setIfInBounds_toArray, List.set_cons_zero, List.set_cons_succ, i64_w, i32_w]
        rfl
      refine pure_ (i := 1) (N := some 73) (v := ?_) (a' := ?_) #[true, true, false, false, false, false, false, false, false, false, false, false, false, false, false, false, false, false, false, false] rfl rfl (by kernel_rfl) (fun _ _ _ h => h) (Or.inl ⟨by rfl, ?_⟩) ?_ ?_
      rotate_left
      · intro w'
        go_simp
        with_reducible rfl
      rotate_left
      · simp only [Act.put, List.setIfInBounds_toArray, List.set_cons_zero, List.set_cons_succ, i64_w, i32_w]
        rfl
      refine pure_ (i := 2) (N := some 74) (v := ?_) (a' := ?_) #[true, true, true, false, false, false, false, false, false, false, false, false, false, false, false, false, false, false, false, false] rfl rfl (by kernel_rfl) (fun _ _ _ h => h) (Or.inl ⟨by rfl, ?_⟩) ?_ ?_
      rotate_left
      · intro w'
        go_simp
        with_reducible rfl
      rotate_left
      · simp only [Act.put, List.setIfInBounds_toArray, List.set_cons_zero, List.set_cons_succ, i64_w, i32_w]
        rfl
      refine pure_ (i := 4) (N := some 76) (v := ?_) (a' := ?_) #[true, true, true, false, true, false, false, false, false, false, false, false, false, false, false, false, false, false, false, false] rfl rfl (by kernel_rfl) (fun _ _ _ h => h) (Or.inl ⟨by rfl, ?_⟩) ?_ ?_
      rotate_left
      · intro w'
        go_simp
        with_reducible rfl
      rotate_left
      · simp only [Act.put, List.setIfInBounds_toArray, List.set_cons_zero, List.set_cons_succ, i64_w, i32_w]
        rfl
      refine pure_ (i := 6) (N := some 78) (v := ?_) (a' := ?_) #[true, true, true, false, true, false, true, false, false, false, false, false, false, false, false, false, false, false, false, false] rfl rfl (by kernel_rfl) (fun _ _ _ h => h) (Or.inl ⟨by rfl, ?_⟩) ?_ ?_
      rotate_left
      · intro w'
        go_simp
        with_reducible rfl
      rotate_left
      · simp only [Act.put, List.setIfInBounds_toArray, List.set_cons_zero, List.set_cons_succ, i64_w, i32_w]
        rfl
      refine pure_ (i := 7) (N := some 79) (v := ?_) (a' := ?_) #[true, true, true, false, true, false, true, true, false, false, false, false, false, false, false, false, false, false, false, false] rfl rfl (by kernel_rfl) (fun _ _ _ h => h) (Or.inl ⟨by rfl, ?_⟩) ?_ ?_
      rotate_left
      · intro w'
        go_simp
        with_reducible rfl
      rotate_left
      · simp only [Act.put, List.setIfInBounds_toArray, List.set_cons_zero, List.set_cons_succ, i64_w, i32_w]
        rfl
      refine pure_ (i := 8) (N := some 80) (v := ?_) (a' := ?_) #[true, true, true, false, true, false, true, true, true, false, false, false, false, false, false, false, false, false, false, false] rfl rfl (by kernel_rfl) (fun _ _ _ h => h) (Or.inl ⟨by rfl, ?_⟩) ?_ ?_
      rotate_left
      · intro w'
        go_simp
        with_reducible rfl
      rotate_left
      · simp only [Act.put, List.setIfInBounds_toArray, List.set_cons_zero, List.set_cons_succ, i64_w, i32_w]
        rfl
      refine pure_ (i := 10) (N := some 82) (v := ?_) (a' := ?_) #[true, true, true, false, true, false, true, true, true, false, true, false, false, false, false, false, false, false, false, false] rfl rfl (by kernel_rfl) (fun _ _ _ h => h) (Or.inl ⟨by rfl, ?_⟩) ?_ ?_
      rotate_left
      · intro w'
        go_simp
        with_reducible rfl
      rotate_left
      · simp only [Act.put, List.setIfInBounds_toArray, List.set_cons_zero, List.set_cons_succ, i64_w, i32_w]
        rfl
      refine pure_ (i := 15) (N := some 87) (v := ?_) (a' := ?_) #[true, true, true, false, true, false, true, true, true, false, true, false, false, false, false, true, false, false, false, false] rfl rfl (by kernel_rfl) (fun _ _ _ h => h) (Or.inl ⟨by rfl, ?_⟩) ?_ ?_
      rotate_left
      · intro w'
        go_simp
        with_reducible rfl
      rotate_left
      · simp only [Act.put, List.setIfInBounds_toArray, List.set_cons_zero, List.set_cons_succ, i64_w, i32_w]
        rfl
      refine take_ (i := 3) (N := some 75) (v := ?_) (a' := ?_) #[true, true, true, true, true, false, true, true, true, false, true, false, false, false, false, true, false, false, false, false] rfl rfl (by kernel_rfl) (fun _ _ _ h => h) (Or.inl ⟨by rfl, ?_⟩) hHeld ?_ ?_
      rotate_left
      · rintro w' ⟨s0, s1⟩
        go_simp
        with_reducible rfl
      rotate_left
      · simp only [Act.put, List.setIfInBounds_toArray, List.set_cons_zero, List.set_cons_succ, i64_w, i32_w]
        rfl
      refine take_ (i := 9) (N := some 81) (v := ?_) (a' := ?_) #[true, true, true, true, true, false, true, true, true, true, true, false, false, false, false, true, false, false, false, false] rfl rfl (by kernel_rfl) (fun _ _ _ h => h) (Or.inl ⟨by rfl, ?_⟩) hHeld ?_ ?_
      rotate_left
      · rintro w' ⟨s0, s1⟩
        go_simp
        with_reducible rfl
      rotate_left
      · simp only [Act.put, List.setIfInBounds_toArray, List.set_cons_zero, List.set_cons_succ, i64_w, i32_w]
        rfl
      refine pure_ (i := 11) (N := some 83) (v := ?_) (a' := ?_) #[true, true, true, true, true, false, true, true, true, true, true, true, false, false, false, true, false, false, false, false] rfl rfl (by kernel_rfl) (fun _ _ _ h => h) (Or.inl ⟨by rfl, ?_⟩) ?_ ?_
      rotate_left
      · intro w'
        go_simp
        with_reducible rfl
      rotate_left
      · simp only [Act.put, List.setIfInBounds_toArray, List.set_cons_zero, List.set_cons_succ, i64_w, i32_w]
        rfl
      refine pure_ (i := 12) (N := some 84) (v := ?_) (a' := ?_) #[true, true, true, true, true, false, true, true, true, true, true, true, true, false, false, true, false, false, false, false] rfl rfl (by kernel_rfl) (fun _ _ _ h => h) (Or.inl ⟨by rfl, ?_⟩) ?_ ?_
      rotate_left
      · intro w'
        go_simp
        with_reducible rfl
      rotate_left
      · simp only [Act.put, List.setIfInBounds_toArray, List.set_cons_zero, List.set_cons_succ, i64_w, i32_w]
        rfl
      refine take_ (i := 13) (N := some 85) (v := ?_) (a' := ?_) #[true, true, true, true, true, false, true, true, true, true, true, true, true, true, false, true, false, false, false, false] rfl rfl (by kernel_rfl) (fun _ _ _ h => h) (Or.inl ⟨by rfl, ?_⟩) hHeld ?_ ?_
      rotate_left
      · rintro w' ⟨s0, s1⟩
        go_simp
        with_reducible rfl
      rotate_left
      · simp only [Act.put, List.setIfInBounds_toArray, List.set_cons_zero, List.set_cons_succ, i64_w, i32_w]
        rfl
      refine one_ (i := 5) (N := some 77) #[true, true, true, true, true, true, true, true, true, true, true, true, true, true, false, true, false, false, false, false] rfl rfl (by kernel_rfl) (by decide) (fun K hK => ?_)
      refine value_ (w1 := ?_) (v := ?_) (by rfl) rfl ?_ ?_
      rotate_left 2
      · go_simp
        constructor
        · rfl
        · rfl
      refine hK.out _ _ ⟨(Go.Lib.cell?_alloc_some _ hHeld.1), (Go.Lib.cell?_alloc_some _ hHeld.2)⟩ (fun hHeld => ?_)
      clear hK K
      refine norm_ (a' := ?_) ?_ ?_
      rotate_left
      · show Act.put _ (some 77) _ = _
        simp only [Act.put, List.setIfInBounds_toArray, List.set_cons_zero, List.set_cons_succ, i64_w, i32_w]
        rfl
      refine one_ (i := 14) (N := some 86) #[true, true, true, true, true, true, true, true, true, true, true, true, true, true, true, true, false, false, false, false] rfl rfl (by kernel_rfl) (by decide) (fun K hK => ?_)
      refine append_step (by rfl) (.tmp 77) (.tmp 85) 23 rfl _ _ rfl rfl _ HRUN6.out rfl ?_
      refine hK.out _ _ ⟨HC6.out, HV6.out⟩ (fun hHeld => ?_)
      clear hK K
      refine norm_ (a' := ?_) ?_ ?_
      rotate_left
      · show Act.put _ (some 86) _ = _
        simp only [Act.put, List.setIfInBounds_toArray, List.set_cons_zero, List.set_cons_succ, i64_w, i32_w]
        rfl
      refine one_ (i := 16) (N := some 88) #[true, true, true, true, true, true, true, true, true, true, true, true, true, true, true, true, true, false, false, false] rfl rfl (by kernel_rfl) (by decide) (fun K hK => ?_)
      refine append_step (by rfl) (.tmp 86) (.tmp 87) 23 rfl _ _ rfl rfl _ HRUN7.out rfl ?_
      refine hK.out _ _ ⟨HC7.out, HV7.out⟩ (fun hHeld => ?_)
      clear hK K
      refine norm_ (a' := ?_) ?_ ?_
      rotate_left
      · show Act.put _ (some 88) _ = _
        simp only [Act.put, List.setIfInBounds_toArray, List.set_cons_zero, List.set_cons_succ, i64_w, i32_w]
        rfl
      refine pure_ (i := 17) (N := some 89) (v := ?_) (a' := ?_) #[true, true, true, true, true, true, true, true, true, true, true, true, true, true, true, true, true, true, false, false] rfl rfl (by kernel_rfl) (fun _ _ _ h => h) (Or.inl ⟨by rfl, ?_⟩) ?_ ?_
      rotate_left
      · intro w'
        go_simp
        with_reducible rfl
      rotate_left
      · simp only [Act.put, List.setIfInBounds_toArray, List.set_cons_zero, List.set_cons_succ, i64_w, i32_w]
        rfl
      refine pure_ (i := 18) (N := some 90) (v := ?_) (a' := ?_) #[true, true, true, true, true, true, true, true, true, true, true, true, true, true, true, true, true, true, true, false] rfl rfl (by kernel_rfl) (fun _ _ _ h => h) (Or.inl ⟨by rfl, ?_⟩) ?_ ?_
      rotate_left
      · intro w'
        go_simp
        with_reducible rfl
      rotate_left
      · simp only [Act.put, List.setIfInBounds_toArray, List.set_cons_zero, List.set_cons_succ, i64_w, i32_w]
        rfl
      refine last_ (i := 19) (N := none) #[true, true, true, true, true, true, true, true, true, true, true, true, true, true, true, true, true, true, true, true] rfl rfl (by kernel_rfl) (by decide) (fun K hK => ?_)
      refine skip_ (w1 := ?_) (by rfl) rfl ?_ ?_
      rotate_left
      · go_simp
        rfl
      refine hK.out _ _ ?_
      clear hK K
      refine done_ (by kernel_rfl) ?_

      clear hHeld hc6 hv6 hc4 hv4 hz71
      have h1 : ∀ y, L4.set i (e4.nm.data.toList, y) = putR R.L s.data.toList y := fun y => by rw [HNM4.out]; exact HPR.out y
      have hp9 := HP7.out
      rw [h1] at hp9
      have hfo := foot_set (r := r) (vL := .slice (some ⟨g, 0, none⟩) n1 c1) (e' := ⟨e4.nm, .slice A7 (e4.x.1 ++ xs).length c7, (e4.x.1 ++ xs, e4.x.2)⟩) (N := w.heap.size) HE4.out (.inr (fun b hb => Nat.le_trans HKD.out.1 (HO7.out b hb))) HF4.out
      have hgf : (ok g ∧ w0.heap.size ≤ g) ∨ w.heap.size ≤ g := HF4.out g (by simp [footR, Value.ownBlock])
      have hr : ok r ∧ w0.heap.size ≤ r := HFT.out r (by simp [footR])
      have hk9 : Kept w (W7.setCell ⟨g, i * 3 + 1, none⟩ (.slice A7 (e4.x.1 ++ xs).length c7)) ok := (HKD.out.below HB7.out).setCell (p := ⟨g, i * 3 + 1, none⟩) (hgf.imp (fun h => h.1) id) _
      have hb9 : Below w0.heap.size w0 (W7.setCell ⟨g, i * 3 + 1, none⟩ (.slice A7 (e4.x.1 ++ xs).length c7)) := (HBD.out.trans (HB7.out.mono HBD.out.size)).setCell (p := ⟨g, i * 3 + 1, none⟩) (hgf.elim (fun h => h.2) (fun h => Nat.le_trans HD.out.below.size h)) _
      have KD := Aside0.mk (did_up hp9 HFI.out.l1 HFI.out.l0)
      have hfo2 : ∀ b ∈ footR r (.slice (some ⟨g, 0, none⟩) n1 c1) (es4.set i ⟨e4.nm, .slice A7 (e4.x.1 ++ xs).length c7, (e4.x.1 ++ xs, e4.x.2)⟩), (ok b ∧ w0.heap.size ≤ b) ∨ w.heap.size ≤ b := fun b hb => (hfo b hb).elim id .inr
      have HFO := Aside0.mk hfo2
      have HK9 := Aside0.mk hk9
      have HB9 := Aside0.mk hb9
      have HRR := Aside0.mk hr
      simp only [List.length_append] at KD HK9 HB9 HFO
      clear hp9 hfo hgf hr hk9 hb9 hfo2 h1
      go_wp2_with fail
      refine KD.out.mono ?_
      rintro e3 w9 ⟨rfl, hi9, hk9, hb9⟩
      go_wp2
      go_ret
      have HE9 := HE.out
      rw [← HX4.out] at HE9
      obtain rfl := HE9
      exact ⟨rfl, HD.out.to hi9 (fun b hb => HFO.out b hb) (HB9.out.trans (hb9 _ HRR.out.2)) HFINE.out, HK9.out.then_ hk9 (fun b hb => .inl (by rw [hb]; exact HRR.out.1))⟩
    case inr =>
      by_cases hci : c = i
      case pos =>
        rw [if_pos hci] at hA2e
        subst hA2e
        obtain rfl : i = c := hci.symm
        clear hci
        have hni : i = n := by omega
        subst hni
        have hr8s := HR8.out
        rw [Nat.sub_self] at hr8s
        have HR8s := Aside0.mk hr8s
        clear hr8s
        go_wp2_with (first | ((with_reducible refine gate_op (op := .buildSlice 77 0 #[]) rfl ?_); refine wpList_value_run (v := .slice (some ⟨w3.heap.size, 0, none⟩) 0 0) (w1 := w3.alloc (.cells #[] 82)) rfl (by go_simp) ?_) | ((with_reducible refine gate_builtin (b := .append) (xs := #[.tmp 48, .tmp 54]) rfl ?_); at_builtin; refine wpList_append_run rfl (.tmp 48) (.tmp 54) 77 rfl _ _ _ _ rfl rfl HR6.out ?_) | ((with_reducible refine gate_builtin (b := .append) (xs := #[.tmp 56, .tmp 59]) rfl ?_); at_builtin; refine wpList_append_run rfl (.tmp 56) (.tmp 59) 77 rfl _ _ _ _ rfl rfl HR7.out ?_) | ((with_reducible refine gate_builtin (b := .append) (xs := #[.tmp 62, .tmp 68]) rfl ?_); at_builtin; refine wpList_append_run rfl (.tmp 62) (.tmp 68) 77 rfl _ _ _ _ rfl rfl HR8s.out ?_))
        obtain ⟨w4, hw4⟩ : ∃ w4, w4 = W8.setCell ⟨r, 1, none⟩ (.slice A8 n8 c8) := ⟨_, rfl⟩
        rw [← hw4] at HP HK4 HB4 ⊢
        have TT := insTT HP.out HI.out.val HK4.out HB4.out HF4.out (by rw [← HN.out]; exact hil) HII.out HQ.out
        clear HP HK4 HB4 HF4 HR6 HR7 HR8 HR8s HO8 HB8 HW8 HI3 HB33 h1a hc7 hc8 hz8 hc1 hw4 HI2 HU
        as_aux_lemma =>
        obtain ⟨g, n1, c1, es4, e4, L4, HI4, HE4, HK4e, HPR, HK4, HB4, HF4, HL4⟩ := TT
        have hi4 : IsRef w4.drew w0.heap.size r { R with L := L4 } (.slice (some ⟨g, 0, none⟩) n1 c1) es4 := HI4.out.step (fun _ _ => rfl)
        have hkd : Kept w w4.drew ok := HK4.out.drew
        have hbd : Below w0.heap.size w0 w4.drew := bdrew HB4.out
        have HKD := Aside0.mk hkd
        have HBD := Aside0.mk hbd
        clear hkd hbd HI4
        obtain ⟨g', c', eg, hcc1, _, hv4, hx4, hz4⟩ := hi4.at_ HE4.out
        injection eg with eg en ec
        injection eg with eg
        injection eg with eg
        subst eg ec
        have HN1 := Aside0.mk en
        rw [← en] at hcc1
        have hlt4 : i < n1 := by rw [en]; exact (List.getElem?_eq_some_iff.1 HE4.out).1
        have hm4 : n1 ≤ 1048577 := by rw [en]; have := HL4.out; have := HN.out; omega
        have hc4 := hi4.head.c1
        have hdt := hi4.dat e4 (List.mem_of_getElem? HE4.out)
        obtain ⟨Ae, ce, hev, hce⟩ := hdt.slice
        have HEV := Aside0.mk hev
        have hx4e : e4.x = oldR R.L s.data.toList := congrArg Prod.snd HK4e.out
        have hnm4 : e4.nm.data.toList = s.data.toList := congrArg Prod.fst HK4e.out
        obtain ⟨me, hme⟩ : ∃ me, me = e4.x.1.length := ⟨_, rfl⟩
        have hml : me ≤ 1073741824 := by
          rw [hme, hx4e]
          unfold oldR
          split
          · rename_i h
            have h1 := total_take_succ (spotB_key h)
            have h2 := total_take_le R.L (spotN R.L s.data.toList + 1)
            have h3 := HFI.out.used
            have h4 := HFI.out.r1
            simp only at h1
            omega
          · simp
        rw [hev] at hv4 hdt
        rw [← hme] at hv4 hce
        have HX4 := Aside0.mk hx4e
        have HNM4 := Aside0.mk hnm4
        obtain ⟨A6, c6, W6, hr6, hd6, hb6, ho6⟩ := Dat.fresh (m := me) (c := ce) (hdt.C rfl) hme.symm (by omega)
        rw [← hme] at hr6 hd6 ho6
        have hk6 : Kept w W6 ok := HKD.out.below hb6
        obtain ⟨v7, W7, hr7, hd7, hg7, ho7⟩ := hd6.append 23 Ab m cb xs (HXS.out W6 hk6) HMX.out.symm (by omega)
        obtain ⟨A7, c7, hv7e, hc7⟩ := hd7.slice
        subst hv7e
        have hb7 : Below w4.drew.heap.size w4.drew W7 := hb6.grown hg7 hb6.size (fun k hk => ho6 k hk)
        have ho72 : ∀ b, (Value.slice A7 (e4.x.1 ++ xs).length c7).ownBlock = some b → w4.drew.heap.size ≤ b := fun b hb => ho7.elim (fun h => ho6 b (by rw [← h]; exact hb)) (fun h => Nat.le_trans hb6.size (h b hb))
        have hc6 : W6.cell? ⟨r, 1, none⟩ = _ := cell_below hc4 hb6
        have hv6 : W6.cell? ⟨g, i * 3 + 1, none⟩ = _ := cell_below hv4 hb6
        have hc7w : W7.cell? ⟨r, 1, none⟩ = _ := cell_below hc4 hb7
        have hv7w : W7.cell? ⟨g, i * 3 + 1, none⟩ = _ := cell_below hv4 hb7
        have hi7 := hi4.belowed hb7
        obtain ⟨g', c', eg, _, _, _, _, hz7⟩ := hi7.at_ HE4.out
        injection eg with eg en7 ec
        injection eg with eg
        injection eg with eg
        subst eg ec
        have hz71 := hz7 (i * 3 + 1)
        have hp7 := hi7.putV HE4.out hd7
        have HP7 := Aside0.mk hp7
        have HRUN6 := Aside0.mk hr6
        have HRUN7 := Aside0.mk hr7
        have HC6 := Aside0.mk hc6
        have HV6 := Aside0.mk hv6
        have HC7 := Aside0.mk hc7w
        have HV7 := Aside0.mk hv7w
        have HB7 := Aside0.mk hb7
        have HO7 := Aside0.mk ho72
        have hi1 : (i : Int) < n1 := by omega
        have HI1 := Aside0.mk hi1
        clear hr6 hr7 hd6 hb6 ho6 hd7 hg7 ho7 hb7 ho72 hi7 hp7 hz7 hdt hev hx4 hz4 hi4 hme hc7w hv7w hk6 hx4e hnm4 en en7
        go_wp2
        refine start_ (n := 20) (S := fun w' => w'.cell? ⟨r, 1, none⟩ = some (.slice (some ⟨g, 0, none⟩) n1 c1) ∧ w'.cell? ⟨g, i * 3 + 1, none⟩ = some (.slice Ae me ce)) (ds := [19]) #[false, false, false, false, false, false, false, false, false, false, false, false, false, false, false, false, false, false, false, false] (by kernel_rfl) rfl rfl ⟨hc4, hv4⟩ (fun hHeld => ?_)
        refine pure_ (i := 0) (N := some 72) (v := ?_) (a' := ?_) #[true, false, false, false, false, false, false, false, false, false, false, false, false, false, false, false, false, false, false, false] rfl rfl (by kernel_rfl) (fun _ _ _ h => h) (Or.inl ⟨by rfl, ?_⟩) ?_ ?_
        rotate_left
        · intro w'
          go_simp
          with_reducible rfl
        rotate_left
        · simp only [Act.put, List.setIfInBounds_toArray, List.set_cons_zero, List.set_cons_succ, i64_w, i32_w]
          rfl
        refine pure_ (i := 1) (N := some 73) (v := ?_) (a' := ?_) #[true, true, false, false, false, false, false, false, false, false, false, false, false, false, false, false, false, false, false, false] rfl rfl (by kernel_rfl) (fun _ _ _ h => h) (Or.inl ⟨by rfl, ?_⟩) ?_ ?_
        rotate_left
        · intro w'
          go_simp
          with_reducible rfl
        rotate_left
        · simp only [Act.put, List.setIfInBounds_toArray, List.set_cons_zero, List.set_cons_succ, i64_w, i32_w]
          rfl
        refine pure_ (i := 2) (N := some 74) (v := ?_) (a' := ?_) #[true, true, true, false, false, false, false, false, false, false, false, false, false, false, false, false, false, false, false, false] rfl rfl (by kernel_rfl) (fun _ _ _ h => h) (Or.inl ⟨by rfl, ?_⟩) ?_ ?_
        rotate_left
        · intro w'
          go_simp
          with_reducible rfl
        rotate_left
        · simp only [Act.put, List.setIfInBounds_toArray, List.set_cons_zero, List.set_cons_succ, i64_w, i32_w]
          rfl
        refine pure_ (i := 4) (N := some 76) (v := ?_) (a' := ?_) #[true, true, true, false, true, false, false, false, false, false, false, false, false, false, false, false, false, false, false, false] rfl rfl (by kernel_rfl) (fun _ _ _ h => h) (Or.inl ⟨by rfl, ?_⟩) ?_ ?_
        rotate_left
        · intro w'
          go_simp
          with_reducible rfl
        rotate_left
        · simp only [Act.put, List.setIfInBounds_toArray, List.set_cons_zero, List.set_cons_succ, i64_w, i32_w]
          rfl
        refine pure_ (i := 6) (N := some 78) (v := ?_) (a' := ?_) #[true, true, true, false, true, false, true, false, false, false, false, false, false, false, false, false, false, false, false, false] rfl rfl (by kernel_rfl) (fun _ _ _ h => h) (Or.inl ⟨by rfl, ?_⟩) ?_ ?_
        rotate_left
        · intro w'
          go_simp
          with_reducible rfl
        rotate_left
        · simp only [Act.put, List.setIfInBounds_toArray, List.set_cons_zero, List.set_cons_succ, i64_w, i32_w]
          rfl
        refine pure_ (i := 7) (N := some 79) (v := ?_) (a' := ?_) #[true, true, true, false, true, false, true, true, false, false, false, false, false, false, false, false, false, false, false, false] rfl rfl (by kernel_rfl) (fun _ _ _ h => h) (Or.inl ⟨by rfl, ?_⟩) ?_ ?_
        rotate_left
        · intro w'
          go_simp
          with_reducible rfl
        rotate_left
        · simp only [Act.put, List.setIfInBounds_toArray, List.set_cons_zero, List.set_cons_succ, i64_w, i32_w]
          rfl
        refine pure_ (i := 8) (N := some 80) (v := ?_) (a' := ?_) #[true, true, true, false, true, false, true, true, true, false, false, false, false, false, false, false, false, false, false, false] rfl rfl (by kernel_rfl) (fun _ _ _ h => h) (Or.inl ⟨by rfl, ?_⟩) ?_ ?_
        rotate_left
        · intro w'
          go_simp
          with_reducible rfl
        rotate_left
        · simp only [Act.put, List.setIfInBounds_toArray, List.set_cons_zero, List.set_cons_succ, i64_w, i32_w]
          rfl
        refine pure_ (i := 10) (N := some 82) (v := ?_) (a' := ?_) #[true, true, true, false, true, false, true, true, true, false, true, false, false, false, false, false, false, false, false, false] rfl rfl (by kernel_rfl) (fun _ _ _ h => h) (Or.inl ⟨by rfl, ?_⟩) ?_ ?_
        rotate_left
        · intro w'
          go_simp
          with_reducible rfl
        rotate_left
        · simp only [Act.put, List.setIfInBounds_toArray, List.set_cons_zero, List.set_cons_succ, i64_w, i32_w]
          rfl
        refine pure_ (i := 15) (N := some 87) (v := ?_) (a' := ?_) #[true, true, true, false, true, false, true, true, true, false, true, false, false, false, false, true, false, false, false, false] rfl rfl (by kernel_rfl) (fun _ _ _ h => h) (Or.inl ⟨by rfl, ?_⟩) ?_ ?_
        rotate_left
        · intro w'
          go_simp
          with_reducible rfl
        rotate_left
        · simp only [Act.put, List.setIfInBounds_toArray, List.set_cons_zero, List.set_cons_succ, i64_w, i32_w]
          rfl
        refine take_ (i := 3) (N := some 75) (v := ?_) (a' := ?_) #[true, true, true, true, true, false, true, true, true, false, true, false, false, false, false, true, false, false, false, false] rfl rfl (by kernel_rfl) (fun _ _ _ h => h) (Or.inl ⟨by rfl, ?_⟩) hHeld ?_ ?_
        rotate_left
        · rintro w' ⟨s0, s1⟩
          go_simp
          with_reducible rfl
        rotate_left
        · simp only [Act.put, List.setIfInBounds_toArray, List.set_cons_zero, List.set_cons_succ, i64_w, i32_w]
          rfl
        refine take_ (i := 9) (N := some 81) (v := ?_) (a' := ?_) #[true, true, true, true, true, false, true, true, true, true, true, false, false, false, false, true, false, false, false, false] rfl rfl (by kernel_rfl) (fun _ _ _ h => h) (Or.inl ⟨by rfl, ?_⟩) hHeld ?_ ?_
        rotate_left
        · rintro w' ⟨s0, s1⟩
          go_simp
          with_reducible rfl
        rotate_left
        · simp only [Act.put, List.setIfInBounds_toArray, List.set_cons_zero, List.set_cons_succ, i64_w, i32_w]
          rfl
        refine pure_ (i := 11) (N := some 83) (v := ?_) (a' := ?_) #[true, true, true, true, true, false, true, true, true, true, true, true, false, false, false, true, false, false, false, false] rfl rfl (by kernel_rfl) (fun _ _ _ h => h) (Or.inl ⟨by rfl, ?_⟩) ?_ ?_
        rotate_left
        · intro w'
          go_simp
          with_reducible rfl
        rotate_left
        · simp only [Act.put, List.setIfInBounds_toArray, List.set_cons_zero, List.set_cons_succ, i64_w, i32_w]
          rfl
        refine pure_ (i := 12) (N := some 84) (v := ?_) (a' := ?_) #[true, true, true, true, true, false, true, true, true, true, true, true, true, false, false, true, false, false, false, false] rfl rfl (by kernel_rfl) (fun _ _ _ h => h) (Or.inl ⟨by rfl, ?_⟩) ?_ ?_
        rotate_left
        · intro w'
          go_simp
          with_reducible rfl
        rotate_left
        · simp only [Act.put, List.setIfInBounds_toArray, List.set_cons_zero, List.set_cons_succ, i64_w, i32_w]
          rfl
        refine take_ (i := 13) (N := some 85) (v := ?_) (a' := ?_) #[true, true, true, true, true, false, true, true, true, true, true, true, true, true, false, true, false, false, false, false] rfl rfl (by kernel_rfl) (fun _ _ _ h => h) (Or.inl ⟨by rfl, ?_⟩) hHeld ?_ ?_
        rotate_left
        · rintro w' ⟨s0, s1⟩
          go_simp
          with_reducible rfl
        rotate_left
        · simp only [Act.put, List.setIfInBounds_toArray, List.set_cons_zero, List.set_cons_succ, i64_w, i32_w]
          rfl
        refine one_ (i := 5) (N := some 77) #[true, true, true, true, true, true, true, true, true, true, true, true, true, true, false, true, false, false, false, false] rfl rfl (by kernel_rfl) (by decide) (fun K hK => ?_)
        refine value_ (w1 := ?_) (v := ?_) (by rfl) rfl ?_ ?_
        rotate_left 2
        · go_simp
          constructor
          · rfl
          · rfl
        refine hK.out _ _ ⟨(Go.Lib.cell?_alloc_some _ hHeld.1), (Go.Lib.cell?_alloc_some _ hHeld.2)⟩ (fun hHeld => ?_)
        clear hK K
        refine norm_ (a' := ?_) ?_ ?_
        rotate_left
        · show Act.put _ (some 77) _ = _
          simp only [Act.put, List.setIfInBounds_toArray, List.set_cons_zero, List.set_cons_succ, i64_w, i32_w]
          rfl
        refine one_ (i := 14) (N := some 86) #[true, true, true, true, true, true, true, true, true, true, true, true, true, true, true, true, false, false, false, false] rfl rfl (by kernel_rfl) (by decide) (fun K hK => ?_)
        refine append_step (by rfl) (.tmp 77) (.tmp 85) 23 rfl _ _ rfl rfl _ HRUN6.out rfl ?_
        refine hK.out _ _ ⟨HC6.out, HV6.out⟩ (fun hHeld => ?_)
        clear hK K
        refine norm_ (a' := ?_) ?_ ?_
        rotate_left
        · show Act.put _ (some 86) _ = _
          simp only [Act.put, List.setIfInBounds_toArray, List.set_cons_zero, List.set_cons_succ, i64_w, i32_w]
          rfl
        refine one_ (i := 16) (N := some 88) #[true, true, true, true, true, true, true, true, true, true, true, true, true, true, true, true, true, false, false, false] rfl rfl (by kernel_rfl) (by decide) (fun K hK => ?_)
        refine append_step (by rfl) (.tmp 86) (.tmp 87) 23 rfl _ _ rfl rfl _ HRUN7.out rfl ?_
        refine hK.out _ _ ⟨HC7.out, HV7.out⟩ (fun hHeld => ?_)
        clear hK K
        refine norm_ (a' := ?_) ?_ ?_
        rotate_left
        · show Act.put _ (some 88) _ = _
          simp only [Act.put, List.setIfInBounds_toArray, List.set_cons_zero, List.set_cons_succ, i64_w, i32_w]
          rfl
        refine pure_ (i := 17) (N := some 89) (v := ?_) (a' := ?_) #[true, true, true, true, true, true, true, true, true, true, true, true, true, true, true, true, true, true, false, false] rfl rfl (by kernel_rfl) (fun _ _ _ h => h) (Or.inl ⟨by rfl, ?_⟩) ?_ ?_
        rotate_left
        · intro w'
          go_simp
          with_reducible rfl
        rotate_left
        · simp only [Act.put, List.setIfInBounds_toArray, List.set_cons_zero, List.set_cons_succ, i64_w, i32_w]
          rfl
        refine pure_ (i := 18) (N := some 90) (v := ?_) (a' := ?_) #[true, true, true, true, true, true, true, true, true, true, true, true, true, true, true, true, true, true, true, false] rfl rfl (by kernel_rfl) (fun _ _ _ h => h) (Or.inl ⟨by rfl, ?_⟩) ?_ ?_
        rotate_left
        · intro w'
          go_simp
          with_reducible rfl
        rotate_left
        · simp only [Act.put, List.setIfInBounds_toArray, List.set_cons_zero, List.set_cons_succ, i64_w, i32_w]
          rfl
        refine last_ (i := 19) (N := none) #[true, true, true, true, true, true, true, true, true, true, true, true, true, true, true, true, true, true, true, true] rfl rfl (by kernel_rfl) (by decide) (fun K hK => ?_)
        refine skip_ (w1 := ?_) (by rfl) rfl ?_ ?_
        rotate_left
        · go_simp
          rfl
        refine hK.out _ _ ?_
        clear hK K
        refine done_ (by kernel_rfl) ?_

        clear hHeld hc6 hv6 hc4 hv4 hz71
        have h1 : ∀ y, L4.set i (e4.nm.data.toList, y) = putR R.L s.data.toList y := fun y => by rw [HNM4.out]; exact HPR.out y
        have hp9 := HP7.out
        rw [h1] at hp9
        have hfo := foot_set (r := r) (vL := .slice (some ⟨g, 0, none⟩) n1 c1) (e' := ⟨e4.nm, .slice A7 (e4.x.1 ++ xs).length c7, (e4.x.1 ++ xs, e4.x.2)⟩) (N := w.heap.size) HE4.out (.inr (fun b hb => Nat.le_trans HKD.out.1 (HO7.out b hb))) HF4.out
        have hgf : (ok g ∧ w0.heap.size ≤ g) ∨ w.heap.size ≤ g := HF4.out g (by simp [footR, Value.ownBlock])
        have hr : ok r ∧ w0.heap.size ≤ r := HFT.out r (by simp [footR])
        have hk9 : Kept w (W7.setCell ⟨g, i * 3 + 1, none⟩ (.slice A7 (e4.x.1 ++ xs).length c7)) ok := (HKD.out.below HB7.out).setCell (p := ⟨g, i * 3 + 1, none⟩) (hgf.imp (fun h => h.1) id) _
        have hb9 : Below w0.heap.size w0 (W7.setCell ⟨g, i * 3 + 1, none⟩ (.slice A7 (e4.x.1 ++ xs).length c7)) := (HBD.out.trans (HB7.out.mono HBD.out.size)).setCell (p := ⟨g, i * 3 + 1, none⟩) (hgf.elim (fun h => h.2) (fun h => Nat.le_trans HD.out.below.size h)) _
        have KD := Aside0.mk (did_up hp9 HFI.out.l1 HFI.out.l0)
        have hfo2 : ∀ b ∈ footR r (.slice (some ⟨g, 0, none⟩) n1 c1) (es4.set i ⟨e4.nm, .slice A7 (e4.x.1 ++ xs).length c7, (e4.x.1 ++ xs, e4.x.2)⟩), (ok b ∧ w0.heap.size ≤ b) ∨ w.heap.size ≤ b := fun b hb => (hfo b hb).elim id .inr
        have HFO := Aside0.mk hfo2
        have HK9 := Aside0.mk hk9
        have HB9 := Aside0.mk hb9
        have HRR := Aside0.mk hr
        simp only [List.length_append] at KD HK9 HB9 HFO
        clear hp9 hfo hgf hr hk9 hb9 hfo2 h1
        go_wp2_with fail
        refine KD.out.mono ?_
        rintro e3 w9 ⟨rfl, hi9, hk9, hb9⟩
        go_wp2
        go_ret
        have HE9 := HE.out
        rw [← HX4.out] at HE9
        obtain rfl := HE9
        exact ⟨rfl, HD.out.to hi9 (fun b hb => HFO.out b hb) (HB9.out.trans (hb9 _ HRR.out.2)) HFINE.out, HK9.out.then_ hk9 (fun b hb => .inl (by rw [hb]; exact HRR.out.1))⟩
      case neg =>
        rw [if_neg hci] at hA2e
        subst hA2e
        go_wp2_with (first | ((with_reducible refine gate_op (op := .buildSlice 77 0 #[]) rfl ?_); refine wpList_value_run (v := .slice (some ⟨w3.heap.size, 0, none⟩) 0 0) (w1 := w3.alloc (.cells #[] 82)) rfl (by go_simp) ?_) | ((with_reducible refine gate_builtin (b := .append) (xs := #[.tmp 48, .tmp 54]) rfl ?_); at_builtin; refine wpList_append_run rfl (.tmp 48) (.tmp 54) 77 rfl _ _ _ _ rfl rfl HR6.out ?_) | ((with_reducible refine gate_builtin (b := .append) (xs := #[.tmp 56, .tmp 59]) rfl ?_); at_builtin; refine wpList_append_run rfl (.tmp 56) (.tmp 59) 77 rfl _ _ _ _ rfl rfl HR7.out ?_) | ((with_reducible refine gate_builtin (b := .append) (xs := #[.tmp 62, .tmp 68]) rfl ?_); at_builtin; refine wpList_append_run rfl (.tmp 62) (.tmp 68) 77 rfl _ _ _ _ rfl rfl HR8.out ?_))
        obtain ⟨w4, hw4⟩ : ∃ w4, w4 = W8.setCell ⟨r, 1, none⟩ (.slice A8 n8 c8) := ⟨_, rfl⟩
        rw [← hw4] at HP HK4 HB4 ⊢
        have TT := insTT HP.out HI.out.val HK4.out HB4.out HF4.out (by rw [← HN.out]; exact hil) HII.out HQ.out
        clear HP HK4 HB4 HF4 HR6 HR7 HR8 HO8 HB8 HW8 HI3 HB33 h1a hc7 hc8 hz8 hc1 hw4 HI2 HU
        as_aux_lemma =>
        obtain ⟨g, n1, c1, es4, e4, L4, HI4, HE4, HK4e, HPR, HK4, HB4, HF4, HL4⟩ := TT
        have hi4 : IsRef w4.drew w0.heap.size r { R with L := L4 } (.slice (some ⟨g, 0, none⟩) n1 c1) es4 := HI4.out.step (fun _ _ => rfl)
        have hkd : Kept w w4.drew ok := HK4.out.drew
        have hbd : Below w0.heap.size w0 w4.drew := bdrew HB4.out
        have HKD := Aside0.mk hkd
        have HBD := Aside0.mk hbd
        clear hkd hbd HI4
        obtain ⟨g', c', eg, hcc1, _, hv4, hx4, hz4⟩ := hi4.at_ HE4.out
        injection eg with eg en ec
        injection eg with eg
        injection eg with eg
        subst eg ec
        have HN1 := Aside0.mk en
        rw [← en] at hcc1
        have hlt4 : i < n1 := by rw [en]; exact (List.getElem?_eq_some_iff.1 HE4.out).1
        have hm4 : n1 ≤ 1048577 := by rw [en]; have := HL4.out; have := HN.out; omega
        have hc4 := hi4.head.c1
        have hdt := hi4.dat e4 (List.mem_of_getElem? HE4.out)
        obtain ⟨Ae, ce, hev, hce⟩ := hdt.slice
        have HEV := Aside0.mk hev
        have hx4e : e4.x = oldR R.L s.data.toList := congrArg Prod.snd HK4e.out
        have hnm4 : e4.nm.data.toList = s.data.toList := congrArg Prod.fst HK4e.out
        obtain ⟨me, hme⟩ : ∃ me, me = e4.x.1.length := ⟨_, rfl⟩
        have hml : me ≤ 1073741824 := by
          rw [hme, hx4e]
          unfold oldR
          split
          · rename_i h
            have h1 := total_take_succ (spotB_key h)
            have h2 := total_take_le R.L (spotN R.L s.data.toList + 1)
            have h3 := HFI.out.used
            have h4 := HFI.out.r1
            simp only at h1
            omega
          · simp
        rw [hev] at hv4 hdt
        rw [← hme] at hv4 hce
        have HX4 := Aside0.mk hx4e
        have HNM4 := Aside0.mk hnm4
        obtain ⟨A6, c6, W6, hr6, hd6, hb6, ho6⟩ := Dat.fresh (m := me) (c := ce) (hdt.C rfl) hme.symm (by omega)
        rw [← hme] at hr6 hd6 ho6
        have hk6 : Kept w W6 ok := HKD.out.below hb6
        obtain ⟨v7, W7, hr7, hd7, hg7, ho7⟩ := hd6.append 23 Ab m cb xs (HXS.out W6 hk6) HMX.out.symm (by omega)
        obtain ⟨A7, c7, hv7e, hc7⟩ := hd7.slice
        subst hv7e
        have hb7 : Below w4.drew.heap.size w4.drew W7 := hb6.grown hg7 hb6.size (fun k hk => ho6 k hk)
        have ho72 : ∀ b, (Value.slice A7 (e4.x.1 ++ xs).length c7).ownBlock = some b → w4.drew.heap.size ≤ b := fun b hb => ho7.elim (fun h => ho6 b (by rw [← h]; exact hb)) (fun h => Nat.le_trans hb6.size (h b hb))
        have hc6 : W6.cell? ⟨r, 1, none⟩ = _ := cell_below hc4 hb6
        have hv6 : W6.cell? ⟨g, i * 3 + 1, none⟩ = _ := cell_below hv4 hb6
        have hc7w : W7.cell? ⟨r, 1, none⟩ = _ := cell_below hc4 hb7
        have hv7w : W7.cell? ⟨g, i * 3 + 1, none⟩ = _ := cell_below hv4 hb7
        have hi7 := hi4.belowed hb7
        obtain ⟨g', c', eg, _, _, _, _, hz7⟩ := hi7.at_ HE4.out
        injection eg with eg en7 ec
        injection eg with eg
        injection eg with eg
        subst eg ec
        have hz71 := hz7 (i * 3 + 1)
        have hp7 := hi7.putV HE4.out hd7
        have HP7 := Aside0.mk hp7
        have HRUN6 := Aside0.mk hr6
        have HRUN7 := Aside0.mk hr7
        have HC6 := Aside0.mk hc6
        have HV6 := Aside0.mk hv6
        have HC7 := Aside0.mk hc7w
        have HV7 := Aside0.mk hv7w
        have HB7 := Aside0.mk hb7
        have HO7 := Aside0.mk ho72
        have hi1 : (i : Int) < n1 := by omega
        have HI1 := Aside0.mk hi1
        clear hr6 hr7 hd6 hb6 ho6 hd7 hg7 ho7 hb7 ho72 hi7 hp7 hz7 hdt hev hx4 hz4 hi4 hme hc7w hv7w hk6 hx4e hnm4 en en7
        go_wp2
        refine start_ (n := 20) (S := fun w' => w'.cell? ⟨r, 1, none⟩ = some (.slice (some ⟨g, 0, none⟩) n1 c1) ∧ w'.cell? ⟨g, i * 3 + 1, none⟩ = some (.slice Ae me ce)) (ds := [19]) #[false, false, false, false, false, false, false, false, false, false, false, false, false, false, false, false, false, false, false, false] (by kernel_rfl) rfl rfl ⟨hc4, hv4⟩ (fun hHeld => ?_)
        refine pure_ (i := 0) (N := some 72) (v := ?_) (a' := ?_) #[true, false, false, false, false, false, false, false, false, false, false, false, false, false, false, false, false, false, false, false] rfl rfl (by kernel_rfl) (fun _ _ _ h => h) (Or.inl ⟨by rfl, ?_⟩) ?_ ?_
        rotate_left
        · intro w'
          go_simp
          with_reducible rfl
        rotate_left
        · simp only [Act.put, List.setIfInBounds_toArray, List.set_cons_zero, List.set_cons_succ, i64_w, i32_w]
          rfl
        refine pure_ (i := 1) (N := some 73) (v := ?_) (a' := ?_) #[true, true, false, false, false, false, false, false, false, false, false, false, false, false, false, false, false, false, false, false] rfl rfl (by kernel_rfl) (fun _ _ _ h => h) (Or.inl ⟨by rfl, ?_⟩) ?_ ?_
        rotate_left
        · intro w'
          go_simp
          with_reducible rfl
        rotate_left
        · simp only [Act.put, List.setIfInBounds_toArray, List.set_cons_zero, List.set_cons_succ, i64_w, i32_w]
          rfl
        refine pure_ (i := 2) (N := some 74) (v := ?_) (a' := ?_) #[true, true, true, false, false, false, false, false, false, false, false, false, false, false, false, false, false, false, false, false] rfl rfl (by kernel_rfl) (fun _ _ _ h => h) (Or.inl ⟨by rfl, ?_⟩) ?_ ?_
        rotate_left
        · intro w'
          go_simp
          with_reducible rfl
        rotate_left
        · simp only [Act.put, List.setIfInBounds_toArray, List.set_cons_zero, List.set_cons_succ, i64_w, i32_w]
          rfl
        refine pure_ (i := 4) (N := some 76) (v := ?_) (a' := ?_) #[true, true, true, false, true, false, false, false, false, false, false, false, false, false, false, false, false, false, false, false] rfl rfl (by kernel_rfl) (fun _ _ _ h => h) (Or.inl ⟨by rfl, ?_⟩) ?_ ?_
        rotate_left
        · intro w'
          go_simp
          with_reducible rfl
        rotate_left
        · simp only [Act.put, List.setIfInBounds_toArray, List.set_cons_zero, List.set_cons_succ, i64_w, i32_w]
          rfl
        refine pure_ (i := 6) (N := some 78) (v := ?_) (a' := ?_) #[true, true, true, false, true, false, true, false, false, false, false, false, false, false, false, false, false, false, false, false] rfl rfl (by kernel_rfl) (fun _ _ _ h => h) (Or.inl ⟨by rfl, ?_⟩) ?_ ?_
        rotate_left
        · intro w'
          go_simp
          with_reducible rfl
        rotate_left
        · simp only [Act.put, List.setIfInBounds_toArray, List.set_cons_zero, List.set_cons_succ, i64_w, i32_w]
          rfl
        refine pure_ (i := 7) (N := some 79) (v := ?_) (a' := ?_) #[true, true, true, false, true, false, true, true, false, false, false, false, false, false, false, false, false, false, false, false] rfl rfl (by kernel_rfl) (fun _ _ _ h => h) (Or.inl ⟨by rfl, ?_⟩) ?_ ?_
        rotate_left
        · intro w'
          go_simp
          with_reducible rfl
        rotate_left
        · simp only [Act.put, List.setIfInBounds_toArray, List.set_cons_zero, List.set_cons_succ, i64_w, i32_w]
          rfl
        refine pure_ (i := 8) (N := some 80) (v := ?_) (a' := ?_) #[true, true, true, false, true, false, true, true, true, false, false, false, false, false, false, false, false, false, false, false] rfl rfl (by kernel_rfl) (fun _ _ _ h => h) (Or.inl ⟨by rfl, ?_⟩) ?_ ?_
        rotate_left
        · intro w'
          go_simp
          with_reducible rfl
        rotate_left
        · simp only [Act.put, List.setIfInBounds_toArray, List.set_cons_zero, List.set_cons_succ, i64_w, i32_w]
          rfl
        refine pure_ (i := 10) (N := some 82) (v := ?_) (a' := ?_) #[true, true, true, false, true, false, true, true, true, false, true, false, false, false, false, false, false, false, false, false] rfl rfl (by kernel_rfl) (fun _ _ _ h => h) (Or.inl ⟨by rfl, ?_⟩) ?_ ?_
        rotate_left
        · intro w'
          go_simp
          with_reducible rfl
        rotate_left
        · simp only [Act.put, List.setIfInBounds_toArray, List.set_cons_zero, List.set_cons_succ, i64_w, i32_w]
          rfl
        refine pure_ (i := 15) (N := some 87) (v := ?_) (a' := ?_) #[true, true, true, false, true, false, true, true, true, false, true, false, false, false, false, true, false, false, false, false] rfl rfl (by kernel_rfl) (fun _ _ _ h => h) (Or.inl ⟨by rfl, ?_⟩) ?_ ?_
        rotate_left
        · intro w'
          go_simp
          with_reducible rfl
        rotate_left
        · simp only [Act.put, List.setIfInBounds_toArray, List.set_cons_zero, List.set_cons_succ, i64_w, i32_w]
          rfl
        refine take_ (i := 3) (N := some 75) (v := ?_) (a' := ?_) #[true, true, true, true, true, false, true, true, true, false, true, false, false, false, false, true, false, false, false, false] rfl rfl (by kernel_rfl) (fun _ _ _ h => h) (Or.inl ⟨by rfl, ?_⟩) hHeld ?_ ?_
        rotate_left
        · rintro w' ⟨s0, s1⟩
          go_simp
          with_reducible rfl
        rotate_left
        · simp only [Act.put, List.setIfInBounds_toArray, List.set_cons_zero, List.set_cons_succ, i64_w, i32_w]
          rfl
        refine take_ (i := 9) (N := some 81) (v := ?_) (a' := ?_) #[true, true, true, true, true, false, true, true, true, true, true, false, false, false, false, true, false, false, false, false] rfl rfl (by kernel_rfl) (fun _ _ _ h => h) (Or.inl ⟨by rfl, ?_⟩) hHeld ?_ ?_
        rotate_left
        · rintro w' ⟨s0, s1⟩
          go_simp
          with_reducible rfl
        rotate_left
        · simp only [Act.put, List.setIfInBounds_toArray, List.set_cons_zero, List.set_cons_succ, i64_w, i32_w]
          rfl
        refine pure_ (i := 11) (N := some 83) (v := ?_) (a' := ?_) #[true, true, true, true, true, false, true, true, true, true, true, true, false, false, false, true, false, false, false, false] rfl rfl (by kernel_rfl) (fun _ _ _ h => h) (Or.inl ⟨by rfl, ?_⟩) ?_ ?_
        rotate_left
        · intro w'
          go_simp
          with_reducible rfl
        rotate_left
        · simp only [Act.put, List.setIfInBounds_toArray, List.set_cons_zero, List.set_cons_succ, i64_w, i32_w]
          rfl
        refine pure_ (i := 12) (N := some 84) (v := ?_) (a' := ?_) #[true, true, true, true, true, false, true, true, true, true, true, true, true, false, false, true, false, false, false, false] rfl rfl (by kernel_rfl) (fun _ _ _ h => h) (Or.inl ⟨by rfl, ?_⟩) ?_ ?_
        rotate_left
        · intro w'
          go_simp
          with_reducible rfl
        rotate_left
        · simp only [Act.put, List.setIfInBounds_toArray, List.set_cons_zero, List.set_cons_succ, i64_w, i32_w]
          rfl
        refine take_ (i := 13) (N := some 85) (v := ?_) (a' := ?_) #[true, true, true, true, true, false, true, true, true, true, true, true, true, true, false, true, false, false, false, false] rfl rfl (by kernel_rfl) (fun _ _ _ h => h) (Or.inl ⟨by rfl, ?_⟩) hHeld ?_ ?_
        rotate_left
        · rintro w' ⟨s0, s1⟩
          go_simp
          with_reducible rfl
        rotate_left
        · simp only [Act.put, List.setIfInBounds_toArray, List.set_cons_zero, List.set_cons_succ, i64_w, i32_w]
          rfl
        refine one_ (i := 5) (N := some 77) #[true, true, true, true, true, true, true, true, true, true, true, true, true, true, false, true, false, false, false, false] rfl rfl (by kernel_rfl) (by decide) (fun K hK => ?_)
        refine value_ (w1 := ?_) (v := ?_) (by rfl) rfl ?_ ?_
        rotate_left 2
        · go_simp
          constructor
          · rfl
          · rfl
        refine hK.out _ _ ⟨(Go.Lib.cell?_alloc_some _ hHeld.1), (Go.Lib.cell?_alloc_some _ hHeld.2)⟩ (fun hHeld => ?_)
        clear hK K
        refine norm_ (a' := ?_) ?_ ?_
        rotate_left
        · show Act.put _ (some 77) _ = _
          simp only [Act.put, List.setIfInBounds_toArray, List.set_cons_zero, List.set_cons_succ, i64_w, i32_w]
          rfl
        refine one_ (i := 14) (N := some 86) #[true, true, true, true, true, true, true, true, true, true, true, true, true, true, true, true, false, false, false, false] rfl rfl (by kernel_rfl) (by decide) (fun K hK => ?_)
        refine append_step (by rfl) (.tmp 77) (.tmp 85) 23 rfl _ _ rfl rfl _ HRUN6.out rfl ?_
        refine hK.out _ _ ⟨HC6.out, HV6.out⟩ (fun hHeld => ?_)
        clear hK K
        refine norm_ (a' := ?_) ?_ ?_
        rotate_left
        · show Act.put _ (some 86) _ = _
          simp only [Act.put, List.setIfInBounds_toArray, List.set_cons_zero, List.set_cons_succ, i64_w, i32_w]
          rfl
        refine one_ (i := 16) (N := some 88) #[true, true, true, true, true, true, true, true, true, true, true, true, true, true, true, true, true, false, false, false] rfl rfl (by kernel_rfl) (by decide) (fun K hK => ?_)
        refine append_step (by rfl) (.tmp 86) (.tmp 87) 23 rfl _ _ rfl rfl _ HRUN7.out rfl ?_
        refine hK.out _ _ ⟨HC7.out, HV7.out⟩ (fun hHeld => ?_)
        clear hK K
        refine norm_ (a' := ?_) ?_ ?_
        rotate_left
        · show Act.put _ (some 88) _ = _
          simp only [Act.put, List.setIfInBounds_toArray, List.set_cons_zero, List.set_cons_succ, i64_w, i32_w]
          rfl
        refine pure_ (i := 17) (N := some 89) (v := ?_) (a' := ?_) #[true, true, true, true, true, true, true, true, true, true, true, true, true, true, true, true, true, true, false, false] rfl rfl (by kernel_rfl) (fun _ _ _ h => h) (Or.inl ⟨by rfl, ?_⟩) ?_ ?_
        rotate_left
        · intro w'
          go_simp
          with_reducible rfl
        rotate_left
        · simp only [Act.put, List.setIfInBounds_toArray, List.set_cons_zero, List.set_cons_succ, i64_w, i32_w]
          rfl
        refine pure_ (i := 18) (N := some 90) (v := ?_) (a' := ?_) #[true, true, true, true, true, true, true, true, true, true, true, true, true, true, true, true, true, true, true, false] rfl rfl (by kernel_rfl) (fun _ _ _ h => h) (Or.inl ⟨by rfl, ?_⟩) ?_ ?_
        rotate_left
        · intro w'
          go_simp
          with_reducible rfl
        rotate_left
        · simp only [Act.put, List.setIfInBounds_toArray, List.set_cons_zero, List.set_cons_succ, i64_w, i32_w]
          rfl
        refine last_ (i := 19) (N := none) #[true, true, true, true, true, true, true, true, true, true, true, true, true, true, true, true, true, true, true, true] rfl rfl (by kernel_rfl) (by decide) (fun K hK => ?_)
        refine skip_ (w1 := ?_) (by rfl) rfl ?_ ?_
        rotate_left
        · go_simp
          rfl
        refine hK.out _ _ ?_
        clear hK K
        refine done_ (by kernel_rfl) ?_

        clear hHeld hc6 hv6 hc4 hv4 hz71
        have h1 : ∀ y, L4.set i (e4.nm.data.toList, y) = putR R.L s.data.toList y := fun y => by rw [HNM4.out]; exact HPR.out y
        have hp9 := HP7.out
        rw [h1] at hp9
        have hfo := foot_set (r := r) (vL := .slice (some ⟨g, 0, none⟩) n1 c1) (e' := ⟨e4.nm, .slice A7 (e4.x.1 ++ xs).length c7, (e4.x.1 ++ xs, e4.x.2)⟩) (N := w.heap.size) HE4.out (.inr (fun b hb => Nat.le_trans HKD.out.1 (HO7.out b hb))) HF4.out
        have hgf : (ok g ∧ w0.heap.size ≤ g) ∨ w.heap.size ≤ g := HF4.out g (by simp [footR, Value.ownBlock])
        have hr : ok r ∧ w0.heap.size ≤ r := HFT.out r (by simp [footR])
        have hk9 : Kept w (W7.setCell ⟨g, i * 3 + 1, none⟩ (.slice A7 (e4.x.1 ++ xs).length c7)) ok := (HKD.out.below HB7.out).setCell (p := ⟨g, i * 3 + 1, none⟩) (hgf.imp (fun h => h.1) id) _
        have hb9 : Below w0.heap.size w0 (W7.setCell ⟨g, i * 3 + 1, none⟩ (.slice A7 (e4.x.1 ++ xs).length c7)) := (HBD.out.trans (HB7.out.mono HBD.out.size)).setCell (p := ⟨g, i * 3 + 1, none⟩) (hgf.elim (fun h => h.2) (fun h => Nat.le_trans HD.out.below.size h)) _
        have KD := Aside0.mk (did_up hp9 HFI.out.l1 HFI.out.l0)
        have hfo2 : ∀ b ∈ footR r (.slice (some ⟨g, 0, none⟩) n1 c1) (es4.set i ⟨e4.nm, .slice A7 (e4.x.1 ++ xs).length c7, (e4.x.1 ++ xs, e4.x.2)⟩), (ok b ∧ w0.heap.size ≤ b) ∨ w.heap.size ≤ b := fun b hb => (hfo b hb).elim id .inr
        have HFO := Aside0.mk hfo2
        have HK9 := Aside0.mk hk9
        have HB9 := Aside0.mk hb9
        have HRR := Aside0.mk hr
        simp only [List.length_append] at KD HK9 HB9 HFO
        clear hp9 hfo hgf hr hk9 hb9 hfo2 h1
        go_wp2_with fail
        refine KD.out.mono ?_
        rintro e3 w9 ⟨rfl, hi9, hk9, hb9⟩
        go_wp2
        go_ret
        have HE9 := HE.out
        rw [← HX4.out] at HE9
        obtain rfl := HE9
        exact ⟨rfl, HD.out.to hi9 (fun b hb => HFO.out b hb) (HB9.out.trans (hb9 _ HRR.out.2)) HFINE.out, HK9.out.then_ hk9 (fun b hb => .inl (by rw [hb]; exact HRR.out.1))⟩
  case true =>
    have HE : Aside0 ((0, { R with left := didR R.left, L := putR R.L s.data.toList ((oldR R.L s.data.toList).1 ++ xs, (oldR R.L s.data.toList).2) }) = res) := ⟨by rw [← HR2.out, if_neg (by rintro (h | ⟨h, _⟩); omega; cases h)]⟩
    refine start_ (n := 22) (S := fun w' => w'.cell? ⟨r, 0, none⟩ = some (.int .i64 room) ∧ w'.cell? ⟨r, 1, none⟩ = some (.slice A0 n c)) (ds := []) #[false, false, false, false, false, false, false, false, false, false, false, false, false, false, false, false, false, false, false, false, false, false] (by kernel_rfl) rfl rfl ⟨hc0, hc1⟩ (fun hHeld => ?_)
    refine pure_ (i := 0) (N := some 24) (v := ?_) (a' := ?_) #[true, false, false, false, false, false, false, false, false, false, false, false, false, false, false, false, false, false, false, false, false, false] rfl rfl (by kernel_rfl) (fun _ _ _ h => h) (Or.inl ⟨by rfl, ?_⟩) ?_ ?_
    rotate_left
    · intro w'
      go_simp
      with_reducible rfl
    rotate_left
    · simp only [Act.put, List.setIfInBounds_toArray, List.set_cons_zero, List.set_cons_succ, i64_w, i32_w]
      rfl
    refine pure_ (i := 2) (N := some 26) (v := ?_) (a' := ?_) #[true, false, true, false, false, false, false, false, false, false, false, false, false, false, false, false, false, false, false, false, false, false] rfl rfl (by kernel_rfl) (fun _ _ _ h => h) (Or.inl ⟨by rfl, ?_⟩) ?_ ?_
    rotate_left
    · intro w'
      go_simp
      with_reducible rfl
    rotate_left
    · simp only [Act.put, List.setIfInBounds_toArray, List.set_cons_zero, List.set_cons_succ, i64_w, i32_w]
      rfl
    refine pure_ (i := 3) (N := some 27) (v := ?_) (a' := ?_) #[true, false, true, true, false, false, false, false, false, false, false, false, false, false, false, false, false, false, false, false, false, false] rfl rfl (by kernel_rfl) (fun _ _ _ h => h) (Or.inl ⟨by rfl, ?_⟩) ?_ ?_
    rotate_left
    · intro w'
      go_simp
      with_reducible rfl
    rotate_left
    · simp only [Act.put, List.setIfInBounds_toArray, List.set_cons_zero, List.set_cons_succ, i64_w, i32_w]
      rfl
    refine pure_ (i := 5) (N := some 29) (v := ?_) (a' := ?_) #[true, false, true, true, false, true, false, false, false, false, false, false, false, false, false, false, false, false, false, false, false, false] rfl rfl (by kernel_rfl) (fun _ _ _ h => h) (Or.inl ⟨by rfl, ?_⟩) ?_ ?_
    rotate_left
    · intro w'
      go_simp
      with_reducible rfl
    rotate_left
    · simp only [Act.put, List.setIfInBounds_toArray, List.set_cons_zero, List.set_cons_succ, i64_w, i32_w]
      rfl
    refine pure_ (i := 6) (N := some 30) (v := ?_) (a' := ?_) #[true, false, true, true, false, true, true, false, false, false, false, false, false, false, false, false, false, false, false, false, false, false] rfl rfl (by kernel_rfl) (fun _ _ _ h => h) (Or.inl ⟨by rfl, ?_⟩) ?_ ?_
    rotate_left
    · intro w'
      go_simp
      with_reducible rfl
    rotate_left
    · simp only [Act.put, List.setIfInBounds_toArray, List.set_cons_zero, List.set_cons_succ, i64_w, i32_w]
      rfl
    refine pure_ (i := 7) (N := some 31) (v := ?_) (a' := ?_) #[true, false, true, true, false, true, true, true, false, false, false, false, false, false, false, false, false, false, false, false, false, false] rfl rfl (by kernel_rfl) (fun _ _ _ h => h) (Or.inl ⟨by rfl, ?_⟩) ?_ ?_
    rotate_left
    · intro w'
      go_simp
      with_reducible rfl
    rotate_left
    · simp only [Act.put, List.setIfInBounds_toArray, List.set_cons_zero, List.set_cons_succ, i64_w, i32_w]
      rfl
    refine take_ (i := 8) (N := some 32) (v := ?_) (a' := ?_) #[true, false, true, true, false, true, true, true, true, false, false, false, false, false, false, false, false, false, false, false, false, false] rfl rfl (by kernel_rfl) (fun _ _ _ h => h) (Or.inl ⟨by rfl, ?_⟩) hHeld ?_ ?_
    rotate_left
    · rintro w' ⟨s0, s1⟩
      go_simp
      with_reducible rfl
    rotate_left
    · simp only [Act.put, List.setIfInBounds_toArray, List.set_cons_zero, List.set_cons_succ, i64_w, i32_w]
      rfl
    refine one_ (i := 1) (N := some 25) #[true, true, true, true, false, true, true, true, true, false, false, false, false, false, false, false, false, false, false, false, false, false] rfl rfl (by kernel_rfl) (by decide) (fun K hK => ?_)
    refine goes_ Try.func57 (by kernel_rfl) rfl #[.pointer (some ⟨r, 0, none⟩)] (by rfl) rfl rfl (by simp only [List.map_toArray, List.map_cons, List.map_nil]; rfl) ?_
    with_reducible refine (HU.out).mono ?_
    rintro e3 w3 ⟨rfl, rfl⟩
    refine ⟨_, rfl, ?_⟩
    refine hK.out _ _ ⟨hHeld.1, hHeld.2⟩ (fun hHeld => ?_)
    clear hK K
    refine norm_ (a' := ?_) ?_ ?_
    rotate_left
    · show Act.put _ (some 25) _ = _
      simp only [Act.put, List.setIfInBounds_toArray, List.set_cons_zero, List.set_cons_succ, i64_w, i32_w]
      rfl
    refine pure_ (i := 4) (N := some 28) (v := ?_) (a' := ?_) #[true, true, true, true, true, true, true, true, true, false, false, false, false, false, false, false, false, false, false, false, false, false] rfl rfl (by kernel_rfl) (fun _ _ _ h => h) (Or.inl ⟨by rfl, ?_⟩) ?_ ?_
    rotate_left
    · intro w'
      go_simp
      with_reducible rfl
    rotate_left
    · simp only [Act.put, List.setIfInBounds_toArray, List.set_cons_zero, List.set_cons_succ, i64_w, i32_w]
      rfl
    refine pure_ (i := 9) (N := some 33) (v := ?_) (a' := ?_) #[true, true, true, true, true, true, true, true, true, true, false, false, false, false, false, false, false, false, false, false, false, false] rfl rfl (by kernel_rfl) (fun _ _ _ h => h) (Or.inl ⟨by rfl, ?_⟩) ?_ ?_
    rotate_left
    · intro w'
      go_simp
      with_reducible rfl
    rotate_left
    · simp only [Act.put, List.setIfInBounds_toArray, List.set_cons_zero, List.set_cons_succ, i64_w, i32_w]
      rfl
    refine pure_ (i := 10) (N := some 34) (v := ?_) (a' := ?_) #[true, true, true, true, true, true, true, true, true, true, true, false, false, false, false, false, false, false, false, false, false, false] rfl rfl (by kernel_rfl) (fun _ _ _ h => h) (Or.inl ⟨by rfl, ?_⟩) ?_ ?_
    rotate_left
    · intro w'
      go_simp
      with_reducible rfl
    rotate_left
    · simp only [Act.put, List.setIfInBounds_toArray, List.set_cons_zero, List.set_cons_succ, i64_w, i32_w]
      rfl
    refine pure_ (i := 11) (N := some 35) (v := ?_) (a' := ?_) #[true, true, true, true, true, true, true, true, true, true, true, true, false, false, false, false, false, false, false, false, false, false] rfl rfl (by kernel_rfl) (fun _ _ _ h => h) (Or.inl ⟨by rfl, ?_⟩) ?_ ?_
    rotate_left
    · intro w'
      go_simp
      with_reducible rfl
    rotate_left
    · simp only [Act.put, List.setIfInBounds_toArray, List.set_cons_zero, List.set_cons_succ, i64_w, i32_w]
      rfl
    refine pure_ (i := 12) (N := some 36) (v := ?_) (a' := ?_) #[true, true, true, true, true, true, true, true, true, true, true, true, true, false, false, false, false, false, false, false, false, false] rfl rfl (by kernel_rfl) (fun _ _ _ h => h) (Or.inl ⟨by rfl, ?_⟩) ?_ ?_
    rotate_left
    · intro w'
      go_simp
      with_reducible rfl
    rotate_left
    · simp only [Act.put, List.setIfInBounds_toArray, List.set_cons_zero, List.set_cons_succ, i64_w, i32_w]
      rfl
    refine pure_ (i := 13) (N := some 37) (v := ?_) (a' := ?_) #[true, true, true, true, true, true, true, true, true, true, true, true, true, true, false, false, false, false, false, false, false, false] rfl rfl (by kernel_rfl) (fun _ _ _ h => h) (Or.inl ⟨by rfl, ?_⟩) ?_ ?_
    rotate_left
    · intro w'
      go_simp
      with_reducible rfl
    rotate_left
    · simp only [Act.put, List.setIfInBounds_toArray, List.set_cons_zero, List.set_cons_succ, i64_w, i32_w]
      rfl
    refine pure_ (i := 14) (N := some 38) (v := undef) (a' := ?_) #[true, true, true, true, true, true, true, true, true, true, true, true, true, true, true, false, false, false, false, false, false, false] rfl rfl (by kernel_rfl) (fun _ _ _ h => h) (Or.inr ⟨by rfl, rfl⟩) ?_ ?_
    rotate_left
    · simp only [Act.put, List.setIfInBounds_toArray, List.set_cons_zero, List.set_cons_succ, i64_w, i32_w]
      rfl
    refine pure_ (i := 15) (N := some 39) (v := undef) (a' := ?_) #[true, true, true, true, true, true, true, true, true, true, true, true, true, true, true, true, false, false, false, false, false, false] rfl rfl (by kernel_rfl) (fun _ _ _ h => h) (Or.inr ⟨by rfl, rfl⟩) ?_ ?_
    rotate_left
    · simp only [Act.put, List.setIfInBounds_toArray, List.set_cons_zero, List.set_cons_succ, i64_w, i32_w]
      rfl
    refine pure_ (i := 16) (N := some 40) (v := undef) (a' := ?_) #[true, true, true, true, true, true, true, true, true, true, true, true, true, true, true, true, true, false, false, false, false, false] rfl rfl (by kernel_rfl) (fun _ _ _ h => h) (Or.inr ⟨by rfl, rfl⟩) ?_ ?_
    rotate_left
    · simp only [Act.put, List.setIfInBounds_toArray, List.set_cons_zero, List.set_cons_succ, i64_w, i32_w]
      rfl
    refine pure_ (i := 17) (N := some 41) (v := undef) (a' := ?_) #[true, true, true, true, true, true, true, true, true, true, true, true, true, true, true, true, true, true, false, false, false, false] rfl rfl (by kernel_rfl) (fun _ _ _ h => h) (Or.inr ⟨by rfl, rfl⟩) ?_ ?_
    rotate_left
    · simp only [Act.put, List.setIfInBounds_toArray, List.set_cons_zero, List.set_cons_succ, i64_w, i32_w]
      rfl
    refine pure_ (i := 18) (N := some 42) (v := undef) (a' := ?_) #[true, true, true, true, true, true, true, true, true, true, true, true, true, true, true, true, true, true, true, false, false, false] rfl rfl (by kernel_rfl) (fun _ _ _ h => h) (Or.inr ⟨by rfl, rfl⟩) ?_ ?_
    rotate_left
    · simp only [Act.put, List.setIfInBounds_toArray, List.set_cons_zero, List.set_cons_succ, i64_w, i32_w]
      rfl
    refine pure_ (i := 19) (N := some 43) (v := undef) (a' := ?_) #[true, true, true, true, true, true, true, true, true, true, true, true, true, true, true, true, true, true, true, true, false, false] rfl rfl (by kernel_rfl) (fun _ _ _ h => h) (Or.inr ⟨by rfl, rfl⟩) ?_ ?_
    rotate_left
    · simp only [Act.put, List.setIfInBounds_toArray, List.set_cons_zero, List.set_cons_succ, i64_w, i32_w]
      rfl
    refine pure_ (i := 20) (N := some 44) (v := ?_) (a' := ?_) #[true, true, true, true, true, true, true, true, true, true, true, true, true, true, true, true, true, true, true, true, true, false] rfl rfl (by kernel_rfl) (fun _ _ _ h => h) (Or.inl ⟨by rfl, ?_⟩) ?_ ?_
    rotate_left
    · intro w'
      go_simp
      with_reducible rfl
    rotate_left
    · simp only [Act.put, List.setIfInBounds_toArray, List.set_cons_zero, List.set_cons_succ, i64_w, i32_w]
      rfl
    refine pure_ (i := 21) (N := some 45) (v := ?_) (a' := ?_) #[true, true, true, true, true, true, true, true, true, true, true, true, true, true, true, true, true, true, true, true, true, true] rfl rfl (by kernel_rfl) (fun _ _ _ h => h) (Or.inl ⟨by rfl, ?_⟩) ?_ ?_
    rotate_left
    · intro w'
      go_simp
      with_reducible rfl
    rotate_left
    · simp only [Act.put, List.setIfInBounds_toArray, List.set_cons_zero, List.set_cons_succ, i64_w, i32_w]
      rfl
    refine done_ (by kernel_rfl) ?_

    obtain ⟨w4, hw4⟩ : ∃ w4, w4 = w2.drew := ⟨_, rfl⟩
    have hi4 : IsRef w4 w0.heap.size r R vL es := by rw [hw4]; exact HI2.out
    have hb4 : Below w.heap.size w w4 := by rw [hw4]; exact bdrew HB3.out
    rw [← hw4] at hc0 ⊢
    have TT := isTT hi4 ((Kept.refl w ok).below hb4) (HD.out.below.trans (hb4.mono HD.out.below.size)) (N := w.heap.size) (fun b hb => .inl (HFT.out b hb)) HII.out HQ.out
    clear hi4 hb4 hw4 hc0 hc1 HI2 HU
    as_aux_lemma =>
    obtain ⟨g, n1, c1, es4, e4, L4, HI4, HE4, HK4e, HPR, HK4, HB4, HF4, HL4⟩ := TT
    have hi4 : IsRef w4.drew w0.heap.size r { R with L := L4 } (.slice (some ⟨g, 0, none⟩) n1 c1) es4 := HI4.out.step (fun _ _ => rfl)
    have hkd : Kept w w4.drew ok := HK4.out.drew
    have hbd : Below w0.heap.size w0 w4.drew := bdrew HB4.out
    have HKD := Aside0.mk hkd
    have HBD := Aside0.mk hbd
    clear hkd hbd HI4
    obtain ⟨g', c', eg, hcc1, _, hv4, hx4, hz4⟩ := hi4.at_ HE4.out
    injection eg with eg en ec
    injection eg with eg
    injection eg with eg
    subst eg ec
    have HN1 := Aside0.mk en
    rw [← en] at hcc1
    have hlt4 : i < n1 := by rw [en]; exact (List.getElem?_eq_some_iff.1 HE4.out).1
    have hm4 : n1 ≤ 1048577 := by rw [en]; have := HL4.out; have := HN.out; omega
    have hc4 := hi4.head.c1
    have hdt := hi4.dat e4 (List.mem_of_getElem? HE4.out)
    obtain ⟨Ae, ce, hev, hce⟩ := hdt.slice
    have HEV := Aside0.mk hev
    have hx4e : e4.x = oldR R.L s.data.toList := congrArg Prod.snd HK4e.out
    have hnm4 : e4.nm.data.toList = s.data.toList := congrArg Prod.fst HK4e.out
    obtain ⟨me, hme⟩ : ∃ me, me = e4.x.1.length := ⟨_, rfl⟩
    have hml : me ≤ 1073741824 := by
      rw [hme, hx4e]
      unfold oldR
      split
      · rename_i h
        have h1 := total_take_succ (spotB_key h)
        have h2 := total_take_le R.L (spotN R.L s.data.toList + 1)
        have h3 := HFI.out.used
        have h4 := HFI.out.r1
        simp only at h1
        omega
      · simp
    rw [hev] at hv4 hdt
    rw [← hme] at hv4 hce
    have HX4 := Aside0.mk hx4e
    have HNM4 := Aside0.mk hnm4
    obtain ⟨A6, c6, W6, hr6, hd6, hb6, ho6⟩ := Dat.fresh (m := me) (c := ce) (hdt.C rfl) hme.symm (by omega)
    rw [← hme] at hr6 hd6 ho6
    have hk6 : Kept w W6 ok := HKD.out.below hb6
    obtain ⟨v7, W7, hr7, hd7, hg7, ho7⟩ := hd6.append 23 Ab m cb xs (HXS.out W6 hk6) HMX.out.symm (by omega)
    obtain ⟨A7, c7, hv7e, hc7⟩ := hd7.slice
    subst hv7e
    have hb7 : Below w4.drew.heap.size w4.drew W7 := hb6.grown hg7 hb6.size (fun k hk => ho6 k hk)
    have ho72 : ∀ b, (Value.slice A7 (e4.x.1 ++ xs).length c7).ownBlock = some b → w4.drew.heap.size ≤ b := fun b hb => ho7.elim (fun h => ho6 b (by rw [← h]; exact hb)) (fun h => Nat.le_trans hb6.size (h b hb))
    have hc6 : W6.cell? ⟨r, 1, none⟩ = _ := cell_below hc4 hb6
    have hv6 : W6.cell? ⟨g, i * 3 + 1, none⟩ = _ := cell_below hv4 hb6
    have hc7w : W7.cell? ⟨r, 1, none⟩ = _ := cell_below hc4 hb7
    have hv7w : W7.cell? ⟨g, i * 3 + 1, none⟩ = _ := cell_below hv4 hb7
    have hi7 := hi4.belowed hb7
    obtain ⟨g', c', eg, _, _, _, _, hz7⟩ := hi7.at_ HE4.out
    injection eg with eg en7 ec
    injection eg with eg
    injection eg with eg
    subst eg ec
    have hz71 := hz7 (i * 3 + 1)
    have hp7 := hi7.putV HE4.out hd7
    have HP7 := Aside0.mk hp7
    have HRUN6 := Aside0.mk hr6
    have HRUN7 := Aside0.mk hr7
    have HC6 := Aside0.mk hc6
    have HV6 := Aside0.mk hv6
    have HC7 := Aside0.mk hc7w
    have HV7 := Aside0.mk hv7w
    have HB7 := Aside0.mk hb7
    have HO7 := Aside0.mk ho72
    have hi1 : (i : Int) < n1 := by omega
    have HI1 := Aside0.mk hi1
    clear hr6 hr7 hd6 hb6 ho6 hd7 hg7 ho7 hb7 ho72 hi7 hp7 hz7 hdt hev hx4 hz4 hi4 hme hc7w hv7w hk6 hx4e hnm4 en en7
    go_wp2
    refine start_ (n := 20) (S := fun w' => w'.cell? ⟨r, 1, none⟩ = some (.slice (some ⟨g, 0, none⟩) n1 c1) ∧ w'.cell? ⟨g, i * 3 + 1, none⟩ = some (.slice Ae me ce)) (ds := [19]) #[false, false, false, false, false, false, false, false, false, false, false, false, false, false, false, false, false, false, false, false] (by kernel_rfl) rfl rfl ⟨hc4, hv4⟩ (fun hHeld => ?_)
    refine pure_ (i := 0) (N := some 72) (v := ?_) (a' := ?_) #[true, false, false, false, false, false, false, false, false, false, false, false, false, false, false, false, false, false, false, false] rfl rfl (by kernel_rfl) (fun _ _ _ h => h) (Or.inl ⟨by rfl, ?_⟩) ?_ ?_
    rotate_left
    · intro w'
      go_simp
      with_reducible rfl
    rotate_left
    · simp only [Act.put, List.setIfInBounds_toArray, List.set_cons_zero, List.set_cons_succ, i64_w, i32_w]
      rfl
    refine pure_ (i := 1) (N := some 73) (v := ?_) (a' := ?_) #[true, true, false, false, false, false, false, false, false, false, false, false, false, false, false, false, false, false, false, false] rfl rfl (by kernel_rfl) (fun _ _ _ h => h) (Or.inl ⟨by rfl, ?_⟩) ?_ ?_
    rotate_left
    · intro w'
      go_simp
      with_reducible rfl
    rotate_left
    · simp only [Act.put, List.setIfInBounds_toArray, List.set_cons_zero, List.set_cons_succ, i64_w, i32_w]
      rfl
    refine pure_ (i := 2) (N := some 74) (v := ?_) (a' := ?_) #[true, true, true, false, false, false, false, false, false, false, false, false, false, false, false, false, false, false, false, false] rfl rfl (by kernel_rfl) (fun _ _ _ h => h) (Or.inl ⟨by rfl, ?_⟩) ?_ ?_
    rotate_left
    · intro w'
      go_simp
      with_reducible rfl
    rotate_left
    · simp only [Act.put, List.setIfInBounds_toArray, List.set_cons_zero, List.set_cons_succ, i64_w, i32_w]
      rfl
    refine pure_ (i := 4) (N := some 76) (v := ?_) (a' := ?_) #[true, true, true, false, true, false, false, false, false, false, false, false, false, false, false, false, false, false, false, false] rfl rfl (by kernel_rfl) (fun _ _ _ h => h) (Or.inl ⟨by rfl, ?_⟩) ?_ ?_
    rotate_left
    · intro w'
      go_simp
      with_reducible rfl
    rotate_left
    · simp only [Act.put, List.setIfInBounds_toArray, List.set_cons_zero, List.set_cons_succ, i64_w, i32_w]
      rfl
    refine pure_ (i := 6) (N := some 78) (v := ?_) (a' := ?_) #[true, true, true, false, true, false, true, false, false, false, false, false, false, false, false, false, false, false, false, false] rfl rfl (by kernel_rfl) (fun _ _ _ h => h) (Or.inl ⟨by rfl, ?_⟩) ?_ ?_
    rotate_left
    · intro w'
      go_simp
      with_reducible rfl
    rotate_left
    · simp only [Act.put, List.setIfInBounds_toArray, List.set_cons_zero, List.set_cons_succ, i64_w, i32_w]
      rfl
    refine pure_ (i := 7) (N := some 79) (v := ?_) (a' := ?_) #[true, true, true, false, true, false, true, true, false, false, false, false, false, false, false, false, false, false, false, false] rfl rfl (by kernel_rfl) (fun _ _ _ h => h) (Or.inl ⟨by rfl, ?_⟩) ?_ ?_
    rotate_left
    · intro w'
      go_simp
      with_reducible rfl
    rotate_left
    · simp only [Act.put, List.setIfInBounds_toArray, List.set_cons_zero, List.set_cons_succ, i64_w, i32_w]
      rfl
    refine pure_ (i := 8) (N := some 80) (v := ?_) (a' := ?_) #[true, true, true, false, true, false, true, true, true, false, false, false, false, false, false, false, false, false, false, false] rfl rfl (by kernel_rfl) (fun _ _ _ h => h) (Or.inl ⟨by rfl, ?_⟩) ?_ ?_
    rotate_left
    · intro w'
      go_simp
      with_reducible rfl
    rotate_left
    · simp only [Act.put, List.setIfInBounds_toArray, List.set_cons_zero, List.set_cons_succ, i64_w, i32_w]
      rfl
    refine pure_ (i := 10) (N := some 82) (v := ?_) (a' := ?_) #[true, true, true, false, true, false, true, true, true, false, true, false, false, false, false, false, false, false, false, false] rfl rfl (by kernel_rfl) (fun _ _ _ h => h) (Or.inl ⟨by rfl, ?_⟩) ?_ ?_
    rotate_left
    · intro w'
      go_simp
      with_reducible rfl
    rotate_left
    · simp only [Act.put, List.setIfInBounds_toArray, List.set_cons_zero, List.set_cons_succ, i64_w, i32_w]
      rfl
    refine pure_ (i := 15) (N := some 87) (v := ?_) (a' := ?_) #[true, true, true, false, true, false, true, true, true, false, true, false, false, false, false, true, false, false, false, false] rfl rfl (by kernel_rfl) (fun _ _ _ h => h) (Or.inl ⟨by rfl, ?_⟩) ?_ ?_
    rotate_left
    · intro w'
      go_simp
      with_reducible rfl
    rotate_left
    · simp only [Act.put, List.setIfInBounds_toArray, List.set_cons_zero, List.set_cons_succ, i64_w, i32_w]
      rfl
    refine take_ (i := 3) (N := some 75) (v := ?_) (a' := ?_) #[true, true, true, true, true, false, true, true, true, false, true, false, false, false, false, true, false, false, false, false] rfl rfl (by kernel_rfl) (fun _ _ _ h => h) (Or.inl ⟨by rfl, ?_⟩) hHeld ?_ ?_
    rotate_left
    · rintro w' ⟨s0, s1⟩
      go_simp
      with_reducible rfl
    rotate_left
    · simp only [Act.put, List.setIfInBounds_toArray, List.set_cons_zero, List.set_cons_succ, i64_w, i32_w]
      rfl
    refine take_ (i := 9) (N := some 81) (v := ?_) (a' := ?_) #[true, true, true, true, true, false, true, true, true, true, true, false, false, false, false, true, false, false, false, false] rfl rfl (by kernel_rfl) (fun _ _ _ h => h) (Or.inl ⟨by rfl, ?_⟩) hHeld ?_ ?_
    rotate_left
    · rintro w' ⟨s0, s1⟩
      go_simp
      with_reducible rfl
    rotate_left
    · simp only [Act.put, List.setIfInBounds_toArray, List.set_cons_zero, List.set_cons_succ, i64_w, i32_w]
      rfl
    refine pure_ (i := 11) (N := some 83) (v := ?_) (a' := ?_) #[true, true, true, true, true, false, true, true, true, true, true, true, false, false, false, true, false, false, false, false] rfl rfl (by kernel_rfl) (fun _ _ _ h => h) (Or.inl ⟨by rfl, ?_⟩) ?_ ?_
    rotate_left
    · intro w'
      go_simp
      with_reducible rfl
    rotate_left
    · simp only [Act.put, List.setIfInBounds_toArray, List.set_cons_zero, List.set_cons_succ, i64_w, i32_w]
      rfl
    refine pure_ (i := 12) (N := some 84) (v := ?_) (a' := ?_) #[true, true, true, true, true, false, true, true, true, true, true, true, true, false, false, true, false, false, false, false] rfl rfl (by kernel_rfl) (fun _ _ _ h => h) (Or.inl ⟨by rfl, ?_⟩) ?_ ?_
    rotate_left
    · intro w'
      go_simp
      with_reducible rfl
    rotate_left
    · simp only [Act.put, List.setIfInBounds_toArray, List.set_cons_zero, List.set_cons_succ, i64_w, i32_w]
      rfl
    refine take_ (i := 13) (N := some 85) (v := ?_) (a' := ?_) #[true, true, true, true, true, false, true, true, true, true, true, true, true, true, false, true, false, false, false, false] rfl rfl (by kernel_rfl) (fun _ _ _ h => h) (Or.inl ⟨by rfl, ?_⟩) hHeld ?_ ?_
    rotate_left
    · rintro w' ⟨s0, s1⟩
      go_simp
      with_reducible rfl
    rotate_left
    · simp only [Act.put, List.setIfInBounds_toArray, List.set_cons_zero, List.set_cons_succ, i64_w, i32_w]
      rfl
    refine one_ (i := 5) (N := some 77) #[true, true, true, true, true, true, true, true, true, true, true, true, true, true, false, true, false, false, false, false] rfl rfl (by kernel_rfl) (by decide) (fun K hK => ?_)
    refine value_ (w1 := ?_) (v := ?_) (by rfl) rfl ?_ ?_
    rotate_left 2
    · go_simp
      constructor
      · rfl
      · rfl
    refine hK.out _ _ ⟨(Go.Lib.cell?_alloc_some _ hHeld.1), (Go.Lib.cell?_alloc_some _ hHeld.2)⟩ (fun hHeld => ?_)
    clear hK K
    refine norm_ (a' := ?_) ?_ ?_
    rotate_left
    · show Act.put _ (some 77) _ = _
      simp only [Act.put, List.setIfInBounds_toArray, List.set_cons_zero, List.set_cons_succ, i64_w, i32_w]
      rfl
    refine one_ (i := 14) (N := some 86) #[true, true, true, true, true, true, true, true, true, true, true, true, true, true, true, true, false, false, false, false] rfl rfl (by kernel_rfl) (by decide) (fun K hK => ?_)
    refine append_step (by rfl) (.tmp 77) (.tmp 85) 23 rfl _ _ rfl rfl _ HRUN6.out rfl ?_
    refine hK.out _ _ ⟨HC6.out, HV6.out⟩ (fun hHeld => ?_)
    clear hK K
    refine norm_ (a' := ?_) ?_ ?_
    rotate_left
    · show Act.put _ (some 86) _ = _
      simp only [Act.put, List.setIfInBounds_toArray, List.set_cons_zero, List.set_cons_succ, i64_w, i32_w]
      rfl
    refine one_ (i := 16) (N := some 88) #[true, true, true, true, true, true, true, true, true, true, true, true, true, true, true, true, true, false, false, false] rfl rfl (by kernel_rfl) (by decide) (fun K hK => ?_)
    refine append_step (by rfl) (.tmp 86) (.tmp 87) 23 rfl _ _ rfl rfl _ HRUN7.out rfl ?_
    refine hK.out _ _ ⟨HC7.out, HV7.out⟩ (fun hHeld => ?_)
    clear hK K
    refine norm_ (a' := ?_) ?_ ?_
    rotate_left
    · show Act.put _ (some 88) _ = _
      simp only [Act.put, List.setIfInBounds_toArray, List.set_cons_zero, List.set_cons_succ, i64_w, i32_w]
      rfl
    refine pure_ (i := 17) (N := some 89) (v := ?_) (a' := ?_) #[true, true, true, true, true, true, true, true, true, true, true, true, true, true, true, true, true, true, false, false] rfl rfl (by kernel_rfl) (fun _ _ _ h => h) (Or.inl ⟨by rfl, ?_⟩) ?_ ?_
    rotate_left
    · intro w'
      go_simp
      with_reducible rfl
    rotate_left
    · simp only [Act.put, List.setIfInBounds_toArray, List.set_cons_zero, List.set_cons_succ, i64_w, i32_w]
      rfl
    refine pure_ (i := 18) (N := some 90) (v := ?_) (a' := ?_) #[true, true, true, true, true, true, true, true, true, true, true, true, true, true, true, true, true, true, true, false] rfl rfl (by kernel_rfl) (fun _ _ _ h => h) (Or.inl ⟨by rfl, ?_⟩) ?_ ?_
    rotate_left
    · intro w'
      go_simp
      with_reducible rfl
    rotate_left
    · simp only [Act.put, List.setIfInBounds_toArray, List.set_cons_zero, List.set_cons_succ, i64_w, i32_w]
      rfl
    refine last_ (i := 19) (N := none) #[true, true, true, true, true, true, true, true, true, true, true, true, true, true, true, true, true, true, true, true] rfl rfl (by kernel_rfl) (by decide) (fun K hK => ?_)
    refine skip_ (w1 := ?_) (by rfl) rfl ?_ ?_
    rotate_left
    · go_simp
      rfl
    refine hK.out _ _ ?_
    clear hK K
    refine done_ (by kernel_rfl) ?_

    clear hHeld hc6 hv6 hc4 hv4 hz71
    have h1 : ∀ y, L4.set i (e4.nm.data.toList, y) = putR R.L s.data.toList y := fun y => by rw [HNM4.out]; exact HPR.out y
    have hp9 := HP7.out
    rw [h1] at hp9
    have hfo := foot_set (r := r) (vL := .slice (some ⟨g, 0, none⟩) n1 c1) (e' := ⟨e4.nm, .slice A7 (e4.x.1 ++ xs).length c7, (e4.x.1 ++ xs, e4.x.2)⟩) (N := w.heap.size) HE4.out (.inr (fun b hb => Nat.le_trans HKD.out.1 (HO7.out b hb))) HF4.out
    have hgf : (ok g ∧ w0.heap.size ≤ g) ∨ w.heap.size ≤ g := HF4.out g (by simp [footR, Value.ownBlock])
    have hr : ok r ∧ w0.heap.size ≤ r := HFT.out r (by simp [footR])
    have hk9 : Kept w (W7.setCell ⟨g, i * 3 + 1, none⟩ (.slice A7 (e4.x.1 ++ xs).length c7)) ok := (HKD.out.below HB7.out).setCell (p := ⟨g, i * 3 + 1, none⟩) (hgf.imp (fun h => h.1) id) _
    have hb9 : Below w0.heap.size w0 (W7.setCell ⟨g, i * 3 + 1, none⟩ (.slice A7 (e4.x.1 ++ xs).length c7)) := (HBD.out.trans (HB7.out.mono HBD.out.size)).setCell (p := ⟨g, i * 3 + 1, none⟩) (hgf.elim (fun h => h.2) (fun h => Nat.le_trans HD.out.below.size h)) _
    have KD := Aside0.mk (did_up hp9 HFI.out.l1 HFI.out.l0)
    have hfo2 : ∀ b ∈ footR r (.slice (some ⟨g, 0, none⟩) n1 c1) (es4.set i ⟨e4.nm, .slice A7 (e4.x.1 ++ xs).length c7, (e4.x.1 ++ xs, e4.x.2)⟩), (ok b ∧ w0.heap.size ≤ b) ∨ w.heap.size ≤ b := fun b hb => (hfo b hb).elim id .inr
    have HFO := Aside0.mk hfo2
    have HK9 := Aside0.mk hk9
    have HB9 := Aside0.mk hb9
    have HRR := Aside0.mk hr
    simp only [List.length_append] at KD HK9 HB9 HFO
    clear hp9 hfo hgf hr hk9 hb9 hfo2 h1
    go_wp2_with fail
    refine KD.out.mono ?_
    rintro e3 w9 ⟨rfl, hi9, hk9, hb9⟩
    go_wp2
    go_ret
    have HE9 := HE.out
    rw [← HX4.out] at HE9
    obtain rfl := HE9
    exact ⟨rfl, HD.out.to hi9 (fun b hb => HFO.out b hb) (HB9.out.trans (hb9 _ HRR.out.2)) HFINE.out, HK9.out.then_ hk9 (fun b hb => .inl (by rw [hb]; exact HRR.out.1))⟩
end
end Go.Proofs.Ytdepjlnljkbfjaa.Hand
