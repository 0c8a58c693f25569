/- KeepApart. -/
import Derived.Test.YtdepjlnljkbfjaaClear
namespace Go.Proofs.Ytdepjlnljkbfjaa.Hand
open Go.RowKit Go.Proofs.Ytdepjlnljkbfjaa.PA Go.Proofs.Ytdepjlnljkbfjaa.MapP Go.Proofs.YtdepjlnljkbfjaaW.PrintWords Go.Proofs.YtdepjlnljkbfjaaW.PrintLast Go.Proofs.YtdepjlnljkbfjaaW.PrintMore
attribute [local go_sem] max2_int min2_int
set_option linter.unusedVariables false
set_option linter.unusedSimpArgs false
set_option linter.unusedSectionVars false
abbrev nP1 : ByteArray := ⟨#[112, 45, 49]⟩
abbrev nP2 : ByteArray := ⟨#[112, 45, 50]⟩
abbrev nQ : ByteArray := ⟨#[113]⟩
abbrev nPp : ByteArray := ⟨#[112, 45]⟩
abbrev kP1 : Key := [112, 45, 49]
abbrev kP2 : Key := [112, 45, 50]
abbrev kQ : Key := [113]
def En (xs : List Int) : List Int × Nat := (encF xs, (encF xs).length)
theorem En_len (xs : List Int) : (En xs).1.length = xs.length + 12 := encF_len xs
theorem ap1 (a : List Int) (h : a.length ≤ 5000) : saveV (V []) nP1 a = (0, V [(kP1, En a)]) := by
  unfold V
  rw [save_good 1048576 0 [] nP1 a (by decide) (by decide) (by omega) rfl (by simp [total]; omega) (by simp)]
  rfl
theorem ap2 (a b : List Int) (h : a.length + b.length ≤ 5000) : saveV (V [(kP1, En a)]) nP2 b = (0, V [(kP1, En a), (kP2, En b)]) := by
  unfold V
  rw [save_good 1048576 0 [(kP1, En a)] nP2 b (by decide) (by decide) (by omega) (by simp [at_cons, at_nil, shK_key]) (by simp only [total, En_len]; omega) (by simp)]
  rfl
theorem ap3 (a b c : List Int) (h : a.length + b.length + c.length ≤ 5000) : saveV (V [(kP1, En a), (kP2, En b)]) nQ c = (0, V [(kP1, En a), (kP2, En b), (kQ, En c)]) := by
  unfold V
  rw [save_good 1048576 0 [(kP1, En a), (kP2, En b)] nQ c (by decide) (by decide) (by omega) (by simp [at_cons, at_nil, shK_key]) (by simp only [total, En_len]; omega) (by simp)]
  rfl
theorem ap4 (a b c d : List Int) (h : a.length + b.length + c.length + d.length ≤ 20000) : saveV (V [(kP1, En a), (kP2, En b), (kQ, En c)]) nP2 d = (0, V [(kP1, En a), (kP2, En d), (kQ, En c)]) := by
  unfold V
  rw [save_good 1048576 0 [(kP1, En a), (kP2, En b), (kQ, En c)] nP2 d (by decide) (by decide) (by omega) (by simp [at_cons, at_nil, shK_key]) (by simp only [total, En_len]; omega) (by simp)]
  rfl
theorem ap5 (draw : Int) (a b c : List Int) : crashV draw (V [(kP1, En a), (kP2, En b), (kQ, En c)]) = V [(kP1, En a), (kP2, En b), (kQ, En c)] := by
  unfold crashV V En
  simp only [List.map_cons, List.map_nil, crash_full]
theorem ap6 (a b c : List Int) (h : a.length ≤ 1048576) : loadV (V [(kP1, En a), (kP2, En b), (kQ, En c)]) nP1 = (a, 0) := load_of (n := (encF a).length) (by simp [V, at_cons, En]) h
theorem ap7 (a b c : List Int) (h : b.length ≤ 1048576) : loadV (V [(kP1, En a), (kP2, En b), (kQ, En c)]) nP2 = (b, 0) := load_of (n := (encF b).length) (by simp [V, at_cons, En]) h
theorem apn (x y z : List Int × Nat) : namesK (V [(kP1, x), (kP2, y), (kQ, z)]) = [kP1, kP2, kQ] := by
  unfold namesK V
  show [kP1, kP2, kQ].mergeSort leK = _
  exact List.mergeSort_of_pairwise (by decide)
theorem apn2 (y z : List Int × Nat) : namesOf (V [(kP2, y), (kQ, z)]) = [nP2, nQ] := by
  unfold namesOf namesK V
  rw [show ([(kP2, y), (kQ, z)].map (·.1)) = [kP2, kQ] from rfl, List.mergeSort_of_pairwise (by decide)]
  rfl
theorem tk1 : takeB nPp.data.toList [nP2, nQ] kP1 = true := by decide
theorem tk2 : takeB nPp.data.toList [nP2, nQ] kP2 = false := by decide
theorem tk3 : takeB nPp.data.toList [nP2, nQ] kQ = false := by decide
theorem ap8 (x y z : List Int × Nat) : clearV nPp.data.toList [nP2, nQ] (V [(kP1, x), (kP2, y), (kQ, z)]) (namesK (V [(kP1, x), (kP2, y), (kQ, z)])) = (0, V [(kP2, y), (kQ, z)]) := by
  rw [apn]
  have h1 : oneV removeX (V [(kP1, x), (kP2, y), (kQ, z)]) (byK kP1) = (0, V [(kP2, y), (kQ, z)]) := by
    unfold oneV
    rw [if_neg (by rw [may_open rfl (by decide)]; simp)]
    rfl
  unfold clearV
  rw [if_pos tk1, h1, if_neg (by simp)]
  unfold clearV
  rw [if_neg (by rw [tk2]; simp)]
  unfold clearV
  rw [if_neg (by rw [tk3]; simp)]
  rfl
theorem ap9 (y z : List Int × Nat) : loadV (V [(kP2, y), (kQ, z)]) nP1 = ([], 7) := load_none (by simp [V, at_cons, at_nil])
theorem ap10 (y : List Int × Nat) (c : List Int) (h : c.length ≤ 1048576) : loadV (V [(kP2, y), (kQ, En c)]) nQ = (c, 0) := load_of (n := (encF c).length) (by simp [V, at_cons, En]) h
theorem texts_pq : haystacklaw11_texts.f 3 [nP2, nQ] [nP2, nQ] = some true := by kernel_rfl
theorem by3 {a b c : List Int} (ha : Bytes a) (hb : Bytes b) (hc : Bytes c) (s : ByteArray) : ∀ x, at_ (V [(kP1, En a), (kP2, En b), (kQ, En c)]).L s.data.toList = some x → Bytes x.1 := by
  intro x hx
  have := at_mem hx
  simp only [V, List.mem_cons, List.not_mem_nil, or_false, Prod.mk.injEq] at this
  rcases this with ⟨_, rfl⟩ | ⟨_, rfl⟩ | ⟨_, rfl⟩ <;> exact encF_bytes (by assumption)
theorem by2 {b c : List Int} (hb : Bytes b) (hc : Bytes c) (s : ByteArray) : ∀ x, at_ (V [(kP2, En b), (kQ, En c)]).L s.data.toList = some x → Bytes x.1 := by
  intro x hx
  have := at_mem hx
  simp only [V, List.mem_cons, List.not_mem_nil, or_false, Prod.mk.injEq] at this
  rcases this with ⟨_, rfl⟩ | ⟨_, rfl⟩ <;> exact encF_bytes (by assumption)
theorem strs_lit (w : World) (l : List ByteArray) (hl : l.length ≤ 9223372036854775807) (o : Obj) (ho : o = .cells (l.map Value.string).toArray 9) : Kd.C Kd.string (w.alloc o) (some ⟨w.heap.size, 0, none⟩) l.length l := by
  subst ho
  refine Kd.C_of_reads (d := ByteArray.empty) (h1 := fun _ => rfl) ⟨rfl, hl, fun _ => ⟨_, rfl, fun j hj => ?_⟩⟩
  rw [Addr.add_lit, Nat.zero_add, blk_cell (heap_alloc_new w _)]
  simp [hj]
theorem C_str_kept {w W' : World} {o : Obj} {l : List ByteArray} {ok : Nat → Prop} (h : Kd.C Kd.string (w.alloc o) (some ⟨w.heap.size, 0, none⟩) l.length l) (hK : Kept (w.alloc o) W' ok) (hp : 0 < l.length) (hok : ∀ k, ok k → k < w.heap.size) : Kd.C Kd.string W' (some ⟨w.heap.size, 0, none⟩) l.length l := by
  refine Kd.C_of_reads (d := ByteArray.empty) (h1 := fun _ => rfl) ⟨rfl, h.2.1, fun _ => ⟨_, rfl, fun j hj => ?_⟩⟩
  obtain ⟨ad, e, hc⟩ := (Kd.reads_of_C (d := ByteArray.empty) (h1 := fun _ => rfl) h).2.2 hp
  injection e with e
  subst e
  rw [← hc j hj]
  rw [Addr.add_lit]
  exact World.cell?_of_block (hK.2 w.heap.size (by simp) (fun h => by have := hok _ h; omega))
end Go.Proofs.Ytdepjlnljkbfjaa.Hand

/- KeepApart: the walk. -/
namespace Go.Proofs.Ytdepjlnljkbfjaa.Hand
open Go.RowKit Go.Proofs.Ytdepjlnljkbfjaa.PA Go.Proofs.Ytdepjlnljkbfjaa.MapP Go.Proofs.YtdepjlnljkbfjaaW.PrintWords Go.Proofs.YtdepjlnljkbfjaaW.PrintLast Go.Proofs.YtdepjlnljkbfjaaW.PrintMore
attribute [local go_sem] max2_int min2_int
set_option linter.unusedVariables false
set_option linter.unusedSimpArgs false
set_option linter.unusedSectionVars false
set_option maxRecDepth 100000 in
set_option maxHeartbeats 8000000 in
theorem apart_walk (a b c : List Int) (A B C : Option Addr) (ca cb cc : Nat) (draw : Int) (w : World) (hA : Kd.C (Kd.int .u8) w A a.length a) (hB : Kd.C (Kd.int .u8) w B b.length b) (hC : Kd.C (Kd.int .u8) w C c.length c) (la : a.length ≤ ca) (lb : b.length ≤ cb) (lc : c.length ≤ cc)
    (sa : a.length ≤ 140737488351232) (sb : b.length ≤ 140737488351232) (sc : c.length ≤ 140737488351232) (ba : Bytes a) (bb : Bytes b) (bc : Bytes c) :
    Calls Try.prog 6 #[.slice A a.length ca, .slice B b.length cb, .slice C c.length cc, .int .i64 draw] w fun e w' => e = .returned (.bool true) ∧ Below w.heap.size w w' := by
  have HA := Aside0.mk hA
  have HB := Aside0.mk hB
  have HC := Aside0.mk hC
  have HBA := Aside0.mk ba
  have HBB := Aside0.mk bb
  have HBC := Aside0.mk bc
  clear hA hB hC ba bb bc
  by_cases hg : (5000 : Int) < (a.length : Int) + (b.length : Int) + (c.length : Int)
  · go_enter Try.func6, Try.ntmps6
    go_wp2
    go_ret
    exact ⟨rfl, Below.refl _ _⟩
  have ht : a.length + b.length + c.length ≤ 5000 := by omega
  obtain ⟨ba, hba⟩ : ∃ ba, ba = b ++ a := ⟨_, rfl⟩
  have hbal : ba.length ≤ 5000 := by rw [hba, List.length_append]; omega
  have HBL : Aside0 (b.length + a.length = ba.length) := ⟨by rw [hba, List.length_append]⟩
  have HBAE := Aside0.mk hba
  have HBAB : Aside0 (Bytes ba) := ⟨by rw [hba]; exact bytes_app HBB.out HBA.out⟩
  clear hba
  go_enter Try.func6, Try.ntmps6
  go_wp2_with fail
  refine (new_calls 1048576 _ (by omega) (by omega)).mono ?_
  rintro e w1 ⟨rfl, h1⟩
  obtain ⟨dd, hdd⟩ : ∃ dd, dd = w.heap.size + 1 := ⟨_, rfl⟩
  rw [← hdd] at h1 ⊢
  have h1 : DiskUp w1 w (fun k => w.heap.size ≤ k) dd (V []) := h1
  clear hdd
  have k2 := save1 h1 nP1 (by unfold maxLen; decide) A ca a (Kd.C_below HA.out h1.below) la HBA.out (by omega)
  rw [ap1 a (by omega)] at k2
  have K2 := Aside0.mk k2
  clear k2 h1
  go_wp2_with fail
  refine K2.out.mono ?_
  rintro e w2 ⟨rfl, h2, _⟩
  have k3 := save1 h2 nP2 (by unfold maxLen; decide) B cb b (Kd.C_below HB.out h2.below) lb HBB.out (by omega)
  rw [ap2 a b (by omega)] at k3
  have K3 := Aside0.mk k3
  clear k3 h2 K2
  go_wp2_with fail
  refine K3.out.mono ?_
  rintro e w3 ⟨rfl, h3, _⟩
  have k4 := save1 h3 nQ (by unfold maxLen; decide) C cc c (Kd.C_below HC.out h3.below) lc HBC.out (by omega)
  rw [ap3 a b c (by omega)] at k4
  have K4 := Aside0.mk k4
  clear k4 h3 K3
  go_wp2_with fail
  refine K4.out.mono ?_
  rintro e w4 ⟨rfl, h4, _⟩
  have k5 := save_up (h4.alloc (.cells #[.slice B b.length cb, .slice A a.length ca] 23)) nP2 (by unfold maxLen; decide) (some ⟨w4.heap.size, 0, none⟩) 2 [b, a] (rows_two (Kd.C_below HB.out h4.below) lb (Kd.C_below HA.out h4.below) la 23) (by simp) (by intro l hl; simp at hl; rcases hl with rfl | rfl <;> first | exact HBB.out | exact HBA.out) (by simp) (by simp; omega)
  rw [show [b, a].flatten = ba from by rw [HBAE.out]; simp, ap4 a b c ba (by omega)] at k5
  have K5 := Aside0.mk k5
  clear k5 h4 K4
  go_wp2_with fail
  refine K5.out.mono ?_
  rintro e w5 ⟨rfl, h5⟩
  have k6 := crash_up h5.up draw
  rw [ap5] at k6
  have K6 := Aside0.mk k6
  clear k6 h5 K5
  go_wp2_with fail
  refine K6.out.mono ?_
  rintro e w6 ⟨rfl, h6, _⟩
  have H6 := Aside0.mk h6
  clear h6 K6
  have k7 := load_up H6.out nP1 (by unfold maxLen; decide) (by3 HBA.out HBAB.out HBC.out nP1)
  rw [ap6 a ba c (by omega)] at k7
  have K7 := Aside0.mk k7
  clear k7 
  go_wp2_with fail
  refine K7.out.mono ?_
  rintro e w7 ⟨A7, c7, rfl, hc7, hC7, hb7⟩
  have H7 := Aside0.mk (H6.out.quiet hb7)
  have HC7 := Aside0.mk hC7
  clear hC7 hb7 K7 H6
  have k8 := load_up H7.out nP2 (by unfold maxLen; decide) (by3 HBA.out HBAB.out HBC.out nP2)
  rw [ap7 a ba c (by omega)] at k8
  have K8 := Aside0.mk k8
  clear k8 
  go_wp2_with fail
  refine K8.out.mono ?_
  rintro e w8 ⟨A8, c8, rfl, hc8, hC8, hb8⟩
  have H8 := Aside0.mk (H7.out.quiet hb8)
  have HC8 := Aside0.mk hC8
  have HC7b := Aside0.mk (Kd.C_below HC7.out hb8)
  clear hC8 hb8 K8 H7 HC7
  have k9 := same11 A7 A c7 ca a w8 HC7b.out hc7 (Kd.C_below HA.out H8.out.below) la (by omega)
  have K9 := Aside0.mk k9
  clear k9 
  go_wp2_with fail
  refine K9.out.mono ?_
  rintro e w9 ⟨rfl, hb9⟩
  have H9 := Aside0.mk (H8.out.quiet hb9)
  have HC9 := Aside0.mk (Kd.C_below HC8.out hb9)
  clear hb9 K9 H8 HC7b HC8
  obtain ⟨v5, W5, hrun5, hd5, hg5, ho5⟩ := (Dat.new (w := w9) (0, 0)).append 23 B b.length cb b (Kd.C_alloc (Kd.C_below HB.out H9.out.below) _) rfl (by simp; omega)
  simp only [List.nil_append] at hd5
  have hb5 : Below w9.heap.size w9 W5 := ((Below.refl w9.heap.size w9).alloc (Nat.le_refl _) _).grown hg5 (by simp) (fun k hk => by have := own_new hk; omega)
  have how : ∀ k, v5.ownBlock = some k → w9.heap.size ≤ k := fun k hk => ho5.elim (fun h => by rw [h] at hk; have := own_new hk; omega) (fun h => by have := h k hk; simp at this; omega)
  obtain ⟨v6, W6, hrun6, hd6, hg6, ho6⟩ := hd5.append 23 A a.length ca a (Kd.C_below HA.out (H9.out.below.trans (hb5.mono H9.out.below.size))) rfl (by omega)
  rw [← HBAE.out] at hd6
  have hb6 : Below w9.heap.size w9 W6 := hb5.grown hg6 hb5.size how
  obtain ⟨A5, c5, hv5, hc5⟩ := hd5.slice
  subst hv5
  obtain ⟨A6, c6, hv6, hc6⟩ := hd6.slice
  subst hv6
  have k10 := same11 A8 A6 c8 c6 ba W6 (Kd.C_below HC9.out hb6) hc8 (hd6.C rfl) hc6 (by omega)
  have K10 := Aside0.mk k10
  have H10 := Aside0.mk (H9.out.quiet hb6)
  clear k10 hd5 hg5 ho5 hb5 hd6 hg6 ho6 hb6 how H9 HC9
  go_wp2_with (first | ((with_reducible refine gate_op (op := .buildSlice 23 0 #[]) rfl ?_); refine wpList_value_run (v := .slice (some ⟨w9.heap.size, 0, none⟩) 0 0) (w1 := w9.alloc (.cells #[] 5)) rfl (by go_simp) ?_) | ((with_reducible refine gate_builtin (b := .append) (xs := #[.tmp 92, .tmp 93]) rfl ?_); (try (refine gate_guard (by rfl) ?_; dsimp only)); at_builtin; refine wpList_append_run rfl (.tmp 92) (.tmp 93) 23 rfl (.slice (some ⟨w9.heap.size, 0, none⟩) 0 0) (.slice B b.length cb) _ _ rfl rfl hrun5 ?_) | ((with_reducible refine gate_builtin (b := .append) (xs := #[.tmp 94, .tmp 95]) rfl ?_); (try (refine gate_guard (by rfl) ?_; dsimp only)); at_builtin; refine wpList_append_run rfl (.tmp 94) (.tmp 95) 23 rfl (.slice A5 b.length c5) (.slice A a.length ca) _ _ rfl rfl hrun6 ?_))
  refine K10.out.mono ?_
  rintro e w10 ⟨rfl, hb10⟩
  have hB := ((H10.out.quiet hb10).bound)
  have hBB := hB
  clear hb10 K10 hrun5 hrun6
  have k11 := clear_up (hB.alloc (.cells #[.string nP2, .string nQ] 9)) nPp (some ⟨w10.heap.size, 0, none⟩) 2 [nP2, nQ] (fun W' hK => C_str_kept (strs_lit w10 [nP2, nQ] (by simp) _ rfl) hK (by simp) (fun k hk => hk.2.2)) (by intro q hq; simp [V] at hq; rcases hq with rfl | rfl | rfl <;> (simp only [List.length_cons, List.length_nil]; unfold maxLen; decide))
  rw [ap8] at k11
  have K11 := Aside0.mk k11
  clear k11 hBB hB
  go_wp2_with fail
  refine K11.out.mono ?_
  rintro e w11 ⟨rfl, h11⟩
  have H11 := Aside0.mk h11.up
  clear h11 K11 H10
  have k12 := load_up H11.out nP1 (by unfold maxLen; decide) (by2 HBAB.out HBC.out nP1)
  rw [ap9] at k12
  have K12 := Aside0.mk k12
  clear k12 
  go_wp2_with fail
  refine K12.out.mono ?_
  rintro e w12 ⟨A12, c12, rfl, _, _, hb12⟩
  have H12 := Aside0.mk (H11.out.quiet hb12)
  clear hb12 K12 H11
  have k13 := load_up H12.out nQ (by unfold maxLen; decide) (by2 HBAB.out HBC.out nQ)
  rw [ap10 _ c (by omega)] at k13
  have K13 := Aside0.mk k13
  clear k13 
  go_wp2_with fail
  refine K13.out.mono ?_
  rintro e w13 ⟨A13, c13, rfl, hc13, hC13, hb13⟩
  have H13 := Aside0.mk (H12.out.quiet hb13)
  have HC13 := Aside0.mk hC13
  clear hb13 K13 H12 hC13
  have k14 := same11 A13 C c13 cc c w13 HC13.out hc13 (Kd.C_below HC.out H13.out.below) lc (by omega)
  have K14 := Aside0.mk k14
  clear k14 
  go_wp2_with fail
  refine K14.out.mono ?_
  rintro e w14 ⟨rfl, hb14⟩
  have H14 := Aside0.mk (H13.out.quiet hb14)
  clear hb14 K14 H13 HC13
  have k15 := list_up H14.out
  rw [apn2] at k15
  have K15 := Aside0.mk k15
  clear k15 
  go_wp2_with fail
  refine K15.out.mono ?_
  rintro e w15 ⟨A15, c15, rfl, hc15, hR15, h15, _⟩
  have hr15 := Kd.R_reads' hR15
  have HR15 := Aside0.mk hr15.2.2
  have H15 := Aside0.mk h15
  clear hR15 h15 K15 H14 hr15
  have k16 := haystacklaw11_texts.calls 3 A15 c15 [nP2, nQ] (some ⟨w15.heap.size, 0, none⟩) 2 [nP2, nQ] true (w15.alloc (.cells #[.string nP2, .string nQ] 9)) (Kd.C_alloc HR15.out _) hc15 (strs_lit w15 [nP2, nQ] (by simp) _ rfl) (by simp) texts_pq
  have K16 := Aside0.mk k16
  clear k16 
  go_wp2_with fail
  refine K16.out.mono ?_
  rintro e w16 ⟨rfl, hd16⟩
  have hb16 : Below w15.heap.size w15 w16 := by obtain ⟨q, rfl⟩ := hd16; exact bdrewN ((Below.refl _ _).alloc (Nat.le_refl _) _) q
  have HB16 := Aside0.mk (H15.out.quiet hb16).below
  clear hd16 hb16 K16 H15
  go_wp2_with fail
  refine (known11 _).mono ?_
  rintro e w17 ⟨rfl, hb17⟩
  go_wp2
  go_ret
  exact ⟨rfl, HB16.out.trans (hb17.mono HB16.out.size)⟩
end Go.Proofs.Ytdepjlnljkbfjaa.Hand
