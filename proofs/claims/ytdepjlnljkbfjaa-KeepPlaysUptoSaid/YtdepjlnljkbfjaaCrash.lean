/- Crash. -/
import Derived.Test.YtdepjlnljkbfjaaRead
namespace Go.Proofs.Ytdepjlnljkbfjaa.Hand
open Go.RowKit Go.Proofs.Ytdepjlnljkbfjaa.MapP Go.Proofs.YtdepjlnljkbfjaaW.PrintWords Go.Proofs.YtdepjlnljkbfjaaW.PrintLast Go.Proofs.YtdepjlnljkbfjaaW.PrintMore
attribute [local go_sem] max2_int min2_int
set_option linter.unusedVariables false
set_option linter.unusedSimpArgs false
set_option linter.unusedSectionVars false
section
variable {w w0 W W' : World} {d m : Nat} {ok : Nat → Prop} {S S' : DV} {F : FL} {k : Key} {y : FV}
def stays (draw : Int) (x : List Int × Nat) : Nat := x.2 + (max 0 draw % ((x.1.length - x.2 + 1 : Nat) : Int)).toNat
def crashX (draw : Int) (x : List Int × Nat) : List Int × Nat := (x.1.take (stays draw x), stays draw x)
def crashV (draw : Int) (S : DV) : DV := { S with fused := false, L := S.L.map fun p => (p.1, crashX draw p.2) }
theorem stays_le (draw : Int) (x : List Int × Nat) (h : x.2 ≤ x.1.length) : x.2 ≤ stays draw x ∧ stays draw x ≤ x.1.length := by
  unfold stays
  have h1 := Int.emod_nonneg (max 0 draw) (b := ((x.1.length - x.2 + 1 : Nat) : Int)) (by omega)
  have h2 := Int.emod_lt_of_pos (max 0 draw) (b := ((x.1.length - x.2 + 1 : Nat) : Int)) (by omega)
  omega
theorem Dat.cut {A : Option Addr} {n c : Nat} {xs : List Int} (h : Dat W (.slice A n c) xs) (t : Nat) (ht : t ≤ xs.length) : Dat W (.slice A t t) (xs.take t) := by
  obtain ⟨A0, c0, e, h1, h2, h3⟩ := h
  injection e with e1 e2 e3
  subst e1 e2 e3
  have hl : (xs.take t).length = t := by rw [List.length_take]; omega
  refine ⟨A, t, by rw [hl], by omega, by omega, ?_⟩
  rcases h3 with ⟨rfl, h0⟩ | ⟨g, cur, rfl, hb, h4, h5, h6⟩
  · exact .inl ⟨rfl, by omega⟩
  · refine .inr ⟨g, cur, rfl, hb, by omega, .inr hl.symm, ?_⟩
    rw [hl]
    have : cur.toList.take t = (cur.toList.take xs.length).take t := by rw [List.take_take]; congr 1; omega
    rw [this, h6]
    simp [bts, List.map_take]
theorem put_same {β : Type} {L : List (Key × β)} {k : Key} {v : β} (ho : Once L) (h : at_ L k = some v) : put L k v = L := by
  obtain ⟨F1, F2, e, hp, _⟩ := split_at ho h
  rw [hp, ← e]
theorem crash_nil (draw : Int) (w : World) : Calls Try.prog 12 #[.pointer none, .int .i64 draw] w fun e w' => e = .returned (.tuple #[]) ∧ w' = w := by
  go_enter Try.func12, Try.ntmps12
  go_wp2
  (try simp only [Exit.inBlock, Exit.then])
  refine bodyPost_ret (results_none rfl _ _ _) rfl ?_
  exact ⟨rfl, rfl⟩
/-- One file after a crash. -/
theorem crashed_is (hi : IsDisk W d m S F) (hk : at_ F k = some y) (A : Option Addr) (n c t : Nat) (hv : y.v = .slice A n c) (ht : t ≤ y.x.1.length) :
    IsDisk ((W.setCell ⟨y.g, 0, none⟩ (.slice A t t)).setCell ⟨y.g, 1, none⟩ (.int .i64 t)) d m { S with L := put S.L k (y.x.1.take t, t) } (put F k ⟨y.g, .slice A t t, (y.x.1.take t, t)⟩) ∧
      (∀ b ∈ foot d m (put F k ⟨y.g, .slice A t t, (y.x.1.take t, t)⟩), b ∈ foot d m F ∨ W.heap.size ≤ b) ∧ gm (put F k ⟨y.g, .slice A t t, (y.x.1.take t, t)⟩) = gm F ∧ ∀ b, b ≠ y.g → ((W.setCell ⟨y.g, 0, none⟩ (.slice A t t)).setCell ⟨y.g, 1, none⟩ (.int .i64 t)).heap[b]? = W.heap[b]? := by
  have hfile := hi.file _ (at_mem hk)
  have hne := hi.own_ne hk
  have hfar : ∀ b, b ≠ y.g → ((W.setCell ⟨y.g, 0, none⟩ (.slice A t t)).setCell ⟨y.g, 1, none⟩ (.int .i64 t)).heap[b]? = W.heap[b]? := fun b hb => (Below.heap_setCell _ ⟨y.g, 1, none⟩ _ b hb).trans (Below.heap_setCell W ⟨y.g, 0, none⟩ _ b hb)
  have hown : (Value.slice A t t).ownBlock = y.v.ownBlock := by
    rw [hv]
    rcases A with _ | ⟨g, o, s⟩
    · rfl
    · cases o <;> cases s <;> rfl
  have hd : Dat W (.slice A t t) (y.x.1.take t) := by
    have := hfile.2
    simp only at this
    rw [hv] at this
    exact this.cut t ht
  have hch := hi.changed (W' := (W.setCell ⟨y.g, 0, none⟩ (.slice A t t)).setCell ⟨y.g, 1, none⟩ (.int .i64 t)) (S' := { S with L := put S.L k (y.x.1.take t, t) }) (y' := ⟨y.g, .slice A t t, (y.x.1.take t, t)⟩) hk rfl
    ⟨blk_set (blk_set hfile.1 0 (.slice A t t)) 1 _, hd.step (fun b hb => hfar b (fun e => hne (by rw [← hown, hb, e])))⟩ (fun b hb hb2 => hfar b (fun e => hb2 (by simp [one, e]))) (.inl hown) rfl
  refine ⟨hch.1, hch.2, ?_, hfar⟩
  have h1 := put_map (fun y : FV => y.g) F k ⟨y.g, .slice A t t, (y.x.1.take t, t)⟩
  unfold gm
  rw [← h1]
  exact put_same (by have := hi.map.once; exact this) (by rw [at_map, hk]; rfl)
theorem bdrewN {B : Nat} {a w : World} (h : Below B a w) (n : Nat) : Below B a (w.drewN n) := h.trans ⟨rfl, rfl, rfl, Nat.le_refl _, fun _ _ => rfl⟩
theorem wr_small (x : Int) (h0 : 0 ≤ x) (h1 : x ≤ 1073741824) : wrap64 x = x := by unfold wrap64; omega
theorem at_isSome {β : Type} {l : List (Key × β)} {k : Key} : (at_ l k).isSome = true ↔ ∃ p ∈ l, p.1 = k := by
  constructor
  · intro h
    obtain ⟨g, hg⟩ := Option.isSome_iff_exists.1 h
    exact ⟨_, at_mem hg, rfl⟩
  · rintro ⟨p, hp, e⟩
    cases h : at_ l k with
    | some g => rfl
    | none => exact absurd e (at_none h p hp)
theorem at_isSome_perm {β : Type} {l l' : List (Key × β)} (hp : l.Perm l') (k : Key) : (at_ l k).isSome = (at_ l' k).isSome := by
  rw [Bool.eq_iff_iff, at_isSome, at_isSome]
  exact ⟨fun ⟨p, h1, h2⟩ => ⟨p, hp.mem_iff.1 h1, h2⟩, fun ⟨p, h1, h2⟩ => ⟨p, hp.mem_iff.2 h1, h2⟩⟩
theorem mem_put_old {β : Type} {L : List (Key × β)} {k : Key} {x y0 : β} (h : at_ L k = some y0) : ∀ p ∈ put L k x, p = (k, x) ∨ (p ∈ L ∧ p.1 ≠ k) := by
  intro p hp
  rw [put_old h] at hp
  obtain ⟨q, hq, rfl⟩ := List.mem_map.1 hp
  by_cases e : q.1 = k
  · left; simp [e]
  · right; simp [e]; exact hq
theorem Ranges.todo_once {P : Program} {kT : TypeId} {W : World} {m r cnt : Nat} {fm todo : List (Key × Nat)} (h : Ranges P kT W m r fm todo cnt) : Once todo := by
  obtain ⟨n, D, left, h, R, ho, _⟩ := h
  exact ho
theorem all_put {F' : FL} {L : List (Key × (List Int × Nat))} (f : List Int × Nat → List Int × Nat) (ho : Once L) (hk : F'.map (·.1) = L.map (·.1)) (h : ∀ p ∈ F', (at_ L p.1).map f = some p.2.x) : xm F' = L.map fun p => (p.1, f p.2) := by
  have hl : F'.length = L.length := by have := congrArg List.length hk; simpa using this
  refine List.ext_getElem (by simp [xm, hl]) fun i h1 h2 => ?_
  have hi : i < F'.length := by simpa [xm] using h1
  have hi2 : i < L.length := by omega
  have hke : F'[i].1 = L[i].1 := by
    have := congrArg (fun l => l[i]?) hk
    simpa [hi, hi2] using this
  have h3 := h F'[i] (List.getElem_mem hi)
  have h4 : at_ L L[i].1 = some L[i].2 := ho.at_of_mem (show (L[i].1, L[i].2) ∈ L from List.getElem_mem hi2)
  rw [hke, h4] at h3
  simp only [Option.map_some, Option.some.injEq] at h3
  simp [xm, hke, h3]
theorem crash_fine (hf : S.Fine) (draw : Int) : (crashV draw S).Fine := by
  have hle : ∀ l : List (Key × (List Int × Nat)), total (l.map fun p => (p.1, crashX draw p.2)) ≤ total l := by
    intro l
    induction l with
    | nil => exact Nat.le_refl _
    | cons p l ih =>
      simp only [List.map_cons, total]
      have : (crashX draw p.2).1.length ≤ p.2.1.length := by simp only [crashX, List.length_take]; omega
      omega
  refine ⟨hf.r0, hf.r1, hf.l0, hf.l1, ?_, fun p hp => ?_, ?_, ?_⟩
  · have := hf.used
    have := hle S.L
    simp only [crashV]
    omega
  · obtain ⟨q, hq, rfl⟩ := List.mem_map.1 hp
    have := stays_le draw q.2 (hf.lasts q hq)
    simp only [crashX, List.length_take]
    omega
  · have := hf.once
    unfold Once at this ⊢
    simp only [crashV, List.map_map]
    exact this
  · simpa [crashV] using hf.many
set_option maxRecDepth 100000 in
set_option maxHeartbeats 8000000 in
theorem crash_up (h : DiskUp w w0 ok d S) (draw : Int) :
    Calls Try.prog 12 #[.pointer (some ⟨d, 0, none⟩), .int .i64 draw] w fun e w' => e = .returned (.tuple #[]) ∧ DiskUp w' w0 (fun k => ok k ∨ w.heap.size ≤ k) d (crashV draw S) ∧ Kept w w' ok := by
  have HD := Aside0.mk h
  obtain ⟨⟨m, F, hi, hft⟩, hB0, hf⟩ := h
  have hm1 := hi.head.c1
  obtain ⟨w1, hrun, hrg, hg1, hs1⟩ := hi.map.range PT
  have HI := Aside0.mk hi
  have HI1 := Aside0.mk (hi.step (W' := w1) (fun b hb => hg1.block b (hi.lt b hb) (by simp)))
  have HK1 := Aside0.mk (Kept.of_grown hg1 (Kept.refl w ok) (fun k hk => by cases hk))
  have HB1 := Aside0.mk (HD.out.below.grown hg1 HD.out.below.size (fun k hk => by cases hk))
  have HRG := Aside0.mk hrg
  have HFT := Aside0.mk hft
  have HFI := Aside0.mk hf
  clear hi hf hrg hg1 hft hB0
  go_enter Try.func12, Try.ntmps12
  go_wp2
  go_loopg [5, 6] (gm F).length (fun gk s5 s6 wr => ∃ (todo : List (Key × Nat)) (cnt : Nat) (F' : FL), cnt ≤ gk ∧ Aside0 (Ranges Try.prog 9 wr m w.heap.size (gm F) todo cnt) ∧ Aside0 (IsDisk wr d m { S with L := xm F' } F') ∧ Aside0 (gm F' = gm F) ∧ Aside0 (∀ b ∈ foot d m F', b ∈ foot d m F) ∧
    Aside0 (∀ p ∈ F', ((at_ todo p.1).isSome = true → at_ S.L p.1 = some p.2.x) ∧ ((at_ todo p.1).isSome = false → (at_ S.L p.1).map (crashX draw) = some p.2.x)) ∧ Aside0 (Kept w wr ok) ∧ Aside0 (Below w0.heap.size w0 wr))
  case atStart =>
    refine ⟨gm F, _, F, Nat.le_refl _, HRG, ⟨?_⟩, ⟨rfl⟩, ⟨fun b hb => hb⟩, ⟨fun p hp => ?_⟩, HK1, HB1⟩
    · have := HI1.out
      have e : ({ S with L := xm F } : DV) = S := by rw [← HI.out.val]
      rw [e]; exact this
    · have h1 : at_ F p.1 = some p.2 := HI.out.once.at_of_mem hp
      refine ⟨fun _ => by rw [HI.out.atL, h1]; rfl, fun h => ?_⟩
      rw [HI.out.at, h1] at h
      cases h
  case round =>
    clear HRG HI1 HK1 HB1
    obtain ⟨todo, cnt, F', hgk, HRG, HI', HG, HF, HX, HK, HB⟩ := hrel
    rcases HRG.out.next PT 0 with ⟨h0, hnil, hnext⟩ | ⟨s, g, todo', w2, cnt', hsz, hat, hperm, hr2, hlt, hg2, hs2, hnext, hent⟩
    · subst hnil
      have hh := HI'.out.head
      have hc2 := hh.c2
      have hz2 := hh.fz 2
      have HH := Aside0.mk hh
      simp only at hc2
      clear hh
      go_wp2
      go_end0
      have hval : xm F' = S.L.map fun p => (p.1, crashX draw p.2) := by
        refine all_put _ HFI.out.once ?_ (fun p hp => (HX.out p hp).2 rfl)
        have h1 := congrArg (List.map (·.1)) HG.out
        rw [HI.out.val]
        simp only [gm, List.map_map] at h1
        simp only [xm, List.map_map]
        exact h1
      have hd : d ∈ foot d m F := by simp [foot]
      have hi6 := HI'.out.headed (W' := wr.setCell ⟨d, 2, none⟩ (.bool false)) (S' := crashV draw S) (by
        have := blk_set HH.out 2 (.bool false)
        exact this) (fun b hb hne => Below.heap_setCell wr ⟨d, 2, none⟩ _ b hne) hval.symm
      refine ⟨rfl, ⟨⟨m, F', hi6, fun b hb => ?_⟩, HB.out.setCell (p := ⟨d, 2, none⟩) (HFT.out d hd).2 _, crash_fine HFI.out draw⟩, HK.out.setCell (p := ⟨d, 2, none⟩) (.inl (HFT.out d hd).1) _⟩
      have := HFT.out b (HF.out b hb)
      exact ⟨.inl this.1, this.2⟩
    · obtain ⟨gk, rfl⟩ : ∃ q, gk = q + 1 := ⟨gk - 1, by omega⟩
      have hg : (at_ F' s.data.toList).map (·.g) = some g := by rw [← HI'.out.at, HG.out]; exact hat
      obtain ⟨y, hy, rfl⟩ := Option.map_eq_some_iff.1 hg
      have hlt' : ∀ b ∈ foot d m F', b < w.heap.size := fun b hb => HI.out.lt b (HF.out b hb)
      have hi2 : IsDisk w2 d m { S with L := xm F' } F' := HI'.out.step (fun b hb => hg2.block b (HI'.out.lt b hb) (fun e => by injection e with e; have := hlt' b hb; omega))
      have hyg : y.g ∈ foot d m F' := mem_foot_file (at_mem hy) (by simp [one])
      have htd : (at_ todo s.data.toList).isSome = true := by
        rw [at_isSome_perm hperm, at_cons]; simp
      have hxy := (HX.out _ (at_mem hy)).1 htd
      simp only at hxy
      have hla := HFI.out.lasts _ (at_mem hxy)
      simp only at hla
      obtain ⟨t1, t2⟩ := stays_le draw y.x hla
      have hfile := hi2.file _ (at_mem hy)
      have hc0 := hfile.c0
      have hc1 := hfile.c1
      have hz0 : w2.frozen? ⟨y.g, 0, none⟩ = false := blk_frozen hfile.1 0
      have hz1 : w2.frozen? ⟨y.g, 1, none⟩ = false := blk_frozen hfile.1 1
      obtain ⟨A, c, hv, hcc⟩ := hfile.2.slice
      simp only at hv hc0 hc1
      rw [hv] at hc0
      obtain ⟨hi5, hf5, hgm5, hfar5⟩ := crashed_is hi2 hy A y.x.1.length c (stays draw y.x) hv t2
      obtain ⟨t, ht⟩ : ∃ t, t = stays draw y.x := ⟨_, rfl⟩
      rw [← ht] at hi5 hf5 hgm5 hfar5 t1 t2
      have HI5 := Aside0.mk hi5
      have HF5 := Aside0.mk hf5
      have HG5 := Aside0.mk hgm5
      have HA5 := Aside0.mk hfar5
      have HT := Aside0.mk ht
      have HXY := Aside0.mk hxy
      have HR2 := Aside0.mk hr2
      have HPM := Aside0.mk hperm
      have HYG := Aside0.mk hyg
      have HG2 := Aside0.mk hg2
      have HS2 := Aside0.mk hs2
      have hx1 : y.x.1.length ≤ 1073741824 := by
        have := total_mem hxy
        have := HFI.out.used
        have := HFI.out.r1
        omega
      have HY := Aside0.mk hy
      have HM := Aside0.mk (mem_put_old (x := (⟨y.g, .slice A t t, (y.x.1.take t, t)⟩ : FV)) hy)
      have HGM := HG
      have HXX := HX
      have hst : (y.x.2 : Int) + max 0 draw % ((y.x.1.length - y.x.2 + 1 : Nat) : Int) = t := by
        rw [ht]
        unfold stays
        have := Int.emod_nonneg (max 0 draw) (b := ((y.x.1.length - y.x.2 + 1 : Nat) : Int)) (by omega)
        omega
      obtain ⟨n, hn⟩ : ∃ n, n = y.x.1.length := ⟨_, rfl⟩
      obtain ⟨l, hl⟩ : ∃ l, l = y.x.2 := ⟨_, rfl⟩
      rw [← hn, ← hl] at hst
      rw [← hn] at hc0 t2 hx1 hcc hla
      rw [← hl] at hc1 t1 hla
      have HN := Aside0.mk hn
      have HL := Aside0.mk hl
      have hcast : ((n - l + 1 : Nat) : Int) = (n : Int) - (l : Int) + 1 := by omega
      rw [hcast] at hst
      have hne1 : (n : Int) - (l : Int) + 1 ≠ 0 := by omega
      have hne0 : (((n : Int) - (l : Int) + 1) == 0) = false := by simpa using hne1
      have hw3 : wrap64 ((l : Int) + max 0 draw % ((n : Int) - (l : Int) + 1)) = t := by
        rw [hst]
        exact wr_small _ (by omega) (by omega)
      have HW3 := Aside0.mk hw3
      clear hcast hne1 hw3
      clear hi5 hf5 hgm5 hfar5 ht hxy hr2 hperm hyg hg2 hs2 hy hn hl hfile hi2 hg hat htd hlt' hv hst HI' HG HX
      go_wp2
      go_quiet (fail)
      rw [HW3.out]
      go_wp2
      go_roundg gk
      case measure => omega
      case rel =>
        have hlty : y.g < w.heap.size := HI.out.lt _ (HF.out _ HYG.out)
        have hmy : m ≠ y.g := by
          intro e
          have h1 := HI5.out.nd
          have h2 : y.g ∈ blocks (put F' s.data.toList ⟨y.g, .slice A t t, (y.x.1.take t, t)⟩) := List.mem_flatMap.2 ⟨_, at_mem at_put_same, by simp [one]⟩
          simp only [foot, List.nodup_cons] at h1
          exact h1.2.1 (e ▸ h2)
        have hval := HI5.out.val
        simp only at hval
        refine ⟨todo', cnt', put F' s.data.toList ⟨y.g, .slice A t t, (y.x.1.take t, t)⟩, by omega, ⟨HR2.out.step (HA5.out m hmy) (HA5.out w.heap.size (by omega))⟩, ⟨?_⟩, ⟨HG5.out.trans HGM.out⟩, ⟨?_⟩, ⟨?_⟩, ⟨?_⟩, ⟨?_⟩⟩
        · rw [← hval]
          exact HI5.out.step (fun _ _ => rfl)
        · intro b hb
          rcases HF5.out b hb with h | h
          · exact HF.out b h
          · exfalso
            have h1 := (HI5.out.lt b hb)
            simp at h1
            have h2 := HS2.out
            omega
        · intro p hp
          have hkn : (at_ todo' s.data.toList).isSome = false := by
            have h1 : Once ((s.data.toList, y.g) :: todo') := (HPM.out.map (fun p : Key × Nat => p.1)).nodup_iff.1 (Ranges.todo_once HRG.out)
            cases h : (at_ todo' s.data.toList).isSome with
            | false => rfl
            | true =>
              obtain ⟨q, hq, e⟩ := at_isSome.1 h
              exact absurd (List.mem_map.2 ⟨q, hq, e⟩) (List.nodup_cons.1 h1).1
          rcases HM.out p hp with rfl | ⟨hp', hne⟩
          · refine ⟨fun h => (by rw [hkn] at h; cases h), fun _ => ?_⟩
            simp only
            rw [HXY.out, Option.map_some, HT.out]
            rfl
          · have := HXX.out p hp'
            rw [at_isSome_perm HPM.out, at_cons, if_neg (by simpa using fun e => hne e.symm)] at this
            exact this
        · exact (((Kept.of_grown HG2.out HK.out (fun k hk => by injection hk with hk; exact .inr (by omega))).drewN _).setCell (p := ⟨y.g, 0, none⟩) (.inl (HFT.out _ (HF.out _ HYG.out)).1) _).setCell (p := ⟨y.g, 1, none⟩) (.inl (HFT.out _ (HF.out _ HYG.out)).1) _
        · exact ((bdrewN (HB.out.grown HG2.out HB.out.size (fun k hk => by injection hk with hk; have := HD.out.below.size; omega)) _).setCell (p := ⟨y.g, 0, none⟩) (HFT.out _ (HF.out _ HYG.out)).2 _).setCell (p := ⟨y.g, 1, none⟩) (HFT.out _ (HF.out _ HYG.out)).2 _
end
end Go.Proofs.Ytdepjlnljkbfjaa.Hand
