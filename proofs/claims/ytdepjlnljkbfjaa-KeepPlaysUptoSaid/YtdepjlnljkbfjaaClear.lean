/- List of any disk; keep.Clear. -/
import Derived.Test.YtdepjlnljkbfjaaList
import Derived.Test.YtdepjlnljkbfjaaSave
namespace Go.Proofs.Ytdepjlnljkbfjaa.Hand
open Go.RowKit Go.Proofs.Ytdepjlnljkbfjaa.PA Go.Proofs.Ytdepjlnljkbfjaa.MapP Go.Proofs.YtdepjlnljkbfjaaW.PrintWords Go.Proofs.YtdepjlnljkbfjaaW.PrintLast Go.Proofs.YtdepjlnljkbfjaaW.PrintMore
attribute [local go_sem] max2_int min2_int
set_option linter.unusedVariables false
set_option linter.unusedSimpArgs false
set_option linter.unusedSectionVars false
def leK (x y : Key) : Bool := decide (x ≤ y)
theorem leK_trans (a b c : Key) (h1 : leK a b = true) (h2 : leK b c = true) : leK a c = true := by
  unfold leK at *
  simp only [decide_eq_true_eq] at *
  exact List.le_trans h1 h2
theorem leK_total (a b : Key) : (leK a b || leK b a) = true := by
  unfold leK
  simp only [Bool.or_eq_true, decide_eq_true_eq]
  exact List.le_total a b
theorem leK_anti {a b : Key} (h1 : leK a b = true) (h2 : leK b a = true) : a = b := by
  unfold leK at *
  simp only [decide_eq_true_eq] at *
  exact List.le_antisymm h1 h2
theorem sort_perm {l l' : List Key} (h : l.Perm l') : l.mergeSort leK = l'.mergeSort leK := by
  refine List.Perm.eq_of_pairwise (le := fun a b => leK a b = true) (fun a b _ _ h1 h2 => leK_anti h1 h2) (List.pairwise_mergeSort leK_trans leK_total l) (List.pairwise_mergeSort leK_trans leK_total l') ?_
  exact ((List.mergeSort_perm l leK).trans h).trans (List.mergeSort_perm l' leK).symm
def byK (k : Key) : ByteArray := ⟨k.toArray⟩
theorem byK_data (k : Key) : (byK k).data.toList = k := rfl
/-- The files' names, rising. -/
def namesK (S : DV) : List Key := (S.L.map (·.1)).mergeSort leK
def namesOf (S : DV) : List ByteArray := (namesK S).map byK
theorem namesOf_len (S : DV) : (namesOf S).length = S.L.length := by unfold namesOf namesK; simp
section
variable {w w0 : World} {d : Nat} {ok : Nat → Prop} {S : DV}
theorem list_up (h : DiskUp w w0 ok d S) : Calls Try.prog 25 #[.pointer (some ⟨d, 0, none⟩)] w fun e w' => ∃ A c, e = .returned (.slice A (namesOf S).length c) ∧ (namesOf S).length ≤ c ∧ Kd.R Kd.string 9 w' w.heap.size (fun k => w.heap.size ≤ k) (.slice A (namesOf S).length c) (namesOf S) ∧ DiskUp w' w0 ok d S ∧ Below w.heap.size w w' := by
  refine (list_row h).mono ?_
  rintro e w' ⟨v, ss, rfl, hp, hrow, hd, hb⟩
  have e1 : (ss.mergeSort (fun x y => decide (x ≤ y))).map encStr = encs Value.string (namesOf S) := by
    rw [show (fun x y : Key => decide (x ≤ y)) = leK from rfl, sort_perm hp]
    unfold encs namesOf namesK
    rw [List.map_map]
    rfl
  have e2 : ss.length = (namesOf S).length := by rw [namesOf_len, hp.length_eq, List.length_map]
  rw [e1, e2] at hrow
  have hR : Kd.R Kd.string 9 w' (w.heap.size + 1) (fun k => w.heap.size ≤ k) v (namesOf S) := Kd.R_of_own (h1 := fun _ => rfl) hrow (fun k hk => by
    rcases hrow.2 with ⟨rfl, _⟩ | ⟨g, cap, cur, rfl, hg, _⟩
    · simp [Value.ownBlock] at hk
    · have := own_new hk
      omega)
  obtain ⟨A, c, rfl, hc, _⟩ := Kd.R_reads hR
  exact ⟨A, c, rfl, hc, Kd.R_lower hR (by omega), hd, hb⟩
end
def takeB (p : Key) (stay : List ByteArray) (k : Key) : Bool := Lib.hasPrefix k p && !(Lib.containsS stay (byK k))
def clearV (p : Key) (stay : List ByteArray) : DV → List Key → Int × DV
  | S, [] => (0, S)
  | S, k :: ks => if takeB p stay k = true then (if (oneV removeX S (byK k)).1 ≠ 0 then oneV removeX S (byK k) else clearV p stay (oneV removeX S (byK k)).2 ks) else clearV p stay S ks
theorem pref_calls (s p : ByteArray) (b : Bool) (w : World) (hb : b = Lib.hasPrefix s.data.toList p.data.toList) : Calls Try.prog 58 #[.string s, .string p] w fun e w' => e = .returned (.bool b) ∧ w' = w := by
  subst hb
  exact Try.strings_HasPrefix s p w
theorem plain_str {w : World} {ad : Addr} {l : List ByteArray} (h : Kd.C Kd.string w (some ad) l.length l) (hp : 0 < l.length) : ∃ g o, ad = ⟨g, o, none⟩ ∧ ∀ j, j < l.length → w.cell? ⟨g, o + j, none⟩ = some (.string (l.getD j ByteArray.empty)) := by
  have h2 := (Kd.reads_of_C (d := ByteArray.empty) (h1 := fun _ => rfl) h).2.2 hp
  obtain ⟨ad2, e, hc⟩ := h2
  injection e with e
  subst e
  obtain ⟨g, o, sp⟩ := ad
  have h0 := hc 0 hp
  obtain rfl := sub_none h0
  exact ⟨g, o, rfl, fun j hj => by have := hc j hj; rw [Addr.add_lit] at this; exact this⟩
theorem has_calls (A : Option Addr) (c : Nat) (zs : List ByteArray) (x : ByteArray) (b : Bool) (w : World) (hC : Kd.C Kd.string w A zs.length zs) (hb : b = Lib.containsS zs x) : Calls Try.prog 59 #[.slice A zs.length c, .string x] w fun e w' => e = .returned (.bool b) ∧ w' = w := by
  subst hb
  rcases Nat.eq_zero_or_pos zs.length with h0 | hp
  · have hz := List.eq_nil_of_length_eq_zero h0
    subst hz
    exact Try.slices_Contains_string_empty A c x w
  · obtain ⟨ad, e, _⟩ := hC.2.2 hp
    subst e
    obtain ⟨g, o, rfl, hc⟩ := plain_str hC hp
    have h := Try.slices_Contains_string g o zs.length c zs x w (Nat.le_refl _) hC.2.1 hc
    rw [List.take_length] at h
    exact h
section
variable {w w0 : World} {d : Nat} {ok : Nat → Prop} {S : DV}
set_option maxRecDepth 100000 in
set_option maxHeartbeats 4000000 in
theorem clear_up (h : DiskUp w w0 ok d S) (p : ByteArray) (A : Option Addr) (c : Nat) (stay : List ByteArray) (hst : ∀ W', Kept w W' ok → Kd.C Kd.string W' A stay.length stay) (hks : ∀ q ∈ S.L, q.1.length ≤ maxLen) :
    Calls Try.prog 23 #[.pointer (some ⟨d, 0, none⟩), .string p, .slice A stay.length c] w fun e w' => e = .returned (.int .i64 (clearV p.data.toList stay S (namesK S)).1) ∧ Went w w' w0 ok d (clearV p.data.toList stay S (namesK S)).2 := by
  obtain ⟨res, hres⟩ : ∃ res, clearV p.data.toList stay S (namesK S) = res := ⟨_, rfl⟩
  rw [hres]
  have HRES := Aside0.mk hres
  have k1 := list_up h.bound
  have hnl := namesOf_len S
  have hmany := h.fine.many
  obtain ⟨ns, hns⟩ : ∃ ns, ns = namesOf S := ⟨_, rfl⟩
  obtain ⟨ks, hks2⟩ : ∃ ks, ks = namesK S := ⟨_, rfl⟩
  have HNS : Aside0 (ns = ks.map byK) := ⟨by rw [hns, hks2]; rfl⟩
  have HKS : Aside0 (∀ k ∈ ks, k.length ≤ maxLen) := ⟨fun k hk => by
    rw [hks2] at hk
    unfold namesK at hk
    rw [List.mem_mergeSort] at hk
    obtain ⟨q, hq, rfl⟩ := List.mem_map.1 hk
    exact hks q hq⟩
  rw [← hns] at k1 hnl
  rw [← hks2] at HRES
  obtain ⟨okb, hokb⟩ : ∃ okb : Nat → Prop, okb = fun k => ok k ∧ w0.heap.size ≤ k ∧ k < w.heap.size := ⟨_, rfl⟩
  have HDB := Aside0.mk h.bound
  rw [← hokb] at HDB k1
  have HOK : Aside0 (∀ k, okb k → ok k) := ⟨by rw [hokb]; exact fun _ h => h.1⟩
  have HLT : Aside0 (∀ k, okb k → k < w.heap.size) := ⟨by rw [hokb]; exact fun _ h => h.2.2⟩
  have HST := Aside0.mk hst
  have K1 := Aside0.mk k1
  have hnn : ns.length ≤ 4096 := by omega
  clear k1 hns hks hks2 hokb h hres hst hnl hmany
  go_enter Try.func23, Try.ntmps23
  go_wp2_with fail
  refine K1.out.mono ?_
  rintro e w1 ⟨A1, c1, rfl, hc1, hR1, h1, hb1⟩
  have G1 := Aside0.mk (WentN.start HDB.out hb1)
  have HR1 := Aside0.mk (Kd.R_bound hR1)
  clear hR1 h1 hb1 K1
  go_wp2
  go_loopw [15] (fun s15 wr => ∃ (i : Nat) (S' : DV), i ≤ ns.length ∧ s15 = .int .i64 i ∧ Aside0 (WentN w wr w0 okb w1.heap.size d S') ∧ Aside0 (Kept w1 wr (fun k => okb k ∨ w1.heap.size ≤ k)) ∧ Aside0 (clearV p.data.toList stay S' (ks.drop i) = res)) (fun s _ => ns.length - (intOf s).toNat)
  case atStart => exact ⟨0, S, Nat.zero_le _, rfl, G1, ⟨Kept.refl _ _⟩, HRES⟩
  case round =>
    obtain ⟨i, S', hi, rfl, G, HK1, HR⟩ := hrel
    by_cases hlt : i < ns.length
    · have hRw := Kd.R_kept HR1.out HK1.out (fun k hk h => by
        obtain ⟨h1, h2, h3, _⟩ := hk
        rcases h with h | h
        · have := HLT.out k h; omega
        · omega)
      have hCw := (Kd.R_reads' hRw).2.2
      have hA1 : ∃ ad, A1 = some ad := by obtain ⟨ad, e, _⟩ := hCw.2.2 (by omega); exact ⟨ad, e⟩
      obtain ⟨ad, rfl⟩ := hA1
      obtain ⟨g, o, rfl, hcells⟩ := plain_str hCw (by omega)
      have hcell := hcells i hlt
      clear hcells
      have hkl : ks.length = ns.length := by rw [HNS.out, List.length_map]
      obtain ⟨k, hk⟩ : ∃ k, ks[i]? = some k := ⟨_, List.getElem?_eq_getElem (by omega)⟩
      have hnk : ns.getD i ByteArray.empty = byK k := by rw [HNS.out]; simp [hk]
      rw [hnk] at hcell
      have hdr : ks.drop i = k :: ks.drop (i + 1) := by
        rw [List.drop_eq_getElem_cons (by omega)]
        congr 1
        have := List.getElem?_eq_getElem (l := ks) (i := i) (by omega)
        rw [hk] at this
        injection this with this
        exact this.symm
      rw [hdr] at HR
      have hkm : (byK k).size ≤ maxLen := by have := HKS.out k (List.mem_of_getElem? hk); simpa [byK, ByteArray.size] using this
      have HKM := Aside0.mk hkm
      obtain ⟨b1, hb1⟩ : ∃ b, b = Lib.hasPrefix (byK k).data.toList p.data.toList := ⟨_, rfl⟩
      obtain ⟨b2, hb2⟩ : ∃ b, b = Lib.containsS stay (byK k) := ⟨_, rfl⟩
      have HTB : Aside0 (takeB p.data.toList stay k = (b1 && !b2)) := ⟨by rw [hb1, hb2]; rfl⟩
      have HB1 := Aside0.mk hb1
      have HB2 := Aside0.mk hb2
      have HCL : Aside0 ((if takeB p.data.toList stay k = true then (if (oneV removeX S' (byK k)).1 ≠ 0 then oneV removeX S' (byK k) else clearV p.data.toList stay (oneV removeX S' (byK k)).2 (ks.drop (i + 1))) else clearV p.data.toList stay S' (ks.drop (i + 1))) = res) := ⟨HR.out⟩
      rw [HTB.out] at HCL
      obtain ⟨x, hx⟩ : ∃ x, x = byK k := ⟨_, rfl⟩
      rw [← hx] at hcell HB1 HB2 HCL HKM
      have k3 := remove1 G.out.up x HKM.out
      obtain ⟨⟨e3, S3⟩, hr3⟩ : ∃ r, oneV removeX S' x = r := ⟨_, rfl⟩
      rw [hr3] at k3 HCL
      have K3 := Aside0.mk k3
      have HCST := Aside0.mk (HST.out wr (G.out.kept.mono HOK.out))
      clear hRw hCw hkl hk hnk hdr hkm hb1 hb2 HR hx k3 hr3
      go_wp2_with fail
      refine (pref_calls x p b1 _ HB1.out).mono ?_
      rintro e w3 ⟨rfl, rfl⟩
      cases b1
      · have HR2 : Aside0 (clearV p.data.toList stay S' (ks.drop (i + 1)) = res) := ⟨by rw [← HCL.out]; simp⟩
        go_wp2
        go_roundw
        case measure => simp [intOf]; omega
        case rel => exact ⟨i + 1, S', by omega, by go_num, G, HK1, HR2⟩
      · go_wp2_with fail
        refine (has_calls A c stay x b2 _ HCST.out HB2.out).mono ?_
        rintro e w4 ⟨rfl, rfl⟩
        cases b2
        · go_wp2_with fail
          refine K3.out.mono ?_
          rintro e w5 ⟨rfl, h5, hk5⟩
          have G5 := Aside0.mk (G.out.step h5 hk5)
          have HK5 := Aside0.mk (HK1.out.then_ hk5 (fun _ h => .inl h))
          clear h5 hk5 hcell
          by_cases he : e3 = 0
          · subst he
            have HR2 : Aside0 (clearV p.data.toList stay S3 (ks.drop (i + 1)) = res) := ⟨by rw [← HCL.out]; simp⟩
            go_wp2
            go_roundw
            case measure => simp [intOf]; omega
            case rel => exact ⟨i + 1, S3, by omega, by go_num, G5, HK5, HR2⟩
          · have HE : Aside0 ((e3, S3) = res) := ⟨by rw [← HCL.out]; simp [he]⟩
            obtain rfl := HE.out
            have hnb : (e3 != 0) = true := by simpa using he
            clear he
            go_wp2
            go_ret
            exact ⟨rfl, G5.out.fin HOK.out⟩
        · have HR2 : Aside0 (clearV p.data.toList stay S' (ks.drop (i + 1)) = res) := ⟨by rw [← HCL.out]; simp⟩
          go_wp2
          go_roundw
          case measure => simp [intOf]; omega
          case rel => exact ⟨i + 1, S', by omega, by go_num, G, HK1, HR2⟩
    · obtain rfl : i = ns.length := by omega
      have hkl : ks.length = ns.length := by rw [HNS.out, List.length_map]
      rw [← hkl, List.drop_length] at HR
      have HE : Aside0 ((0, S') = res) := ⟨HR.out⟩
      obtain rfl := HE.out
      clear hkl
      go_wp2
      go_ret
      exact ⟨rfl, G.out.fin HOK.out⟩
end
end Go.Proofs.Ytdepjlnljkbfjaa.Hand
