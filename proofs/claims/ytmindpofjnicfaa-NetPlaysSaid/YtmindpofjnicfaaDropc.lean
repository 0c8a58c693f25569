import Derived.Test.YtmindpofjnicfaaDelf
namespace Go.Proofs.Ytmindpofjnicfaa.Hand
open Go.RowKit Go.Proofs.Ytmindpofjnicfaa.PA Go.Proofs.YtmindpofjnicfaaW.PrintWords Go.Proofs.YtmindpofjnicfaaW.PrintLast Go.Proofs.YtmindpofjnicfaaW.PrintMore
attribute [local go_sem] max2_int min2_int
theorem S_of_tags {α : Type} {d : Kd α} {e : Nat} {w : World} {base : Nat} {ok : Nat → Prop} {v : Value} {f : Nat → Nat} {zs : List (α × Nat)} (h : (Kd.tag f d).R e w base ok v zs) (hnd : (zs.map (·.2)).Nodup) : Kd.S d e w base ok v (zs.map (·.1)) := by
  obtain ⟨h0, inner, ho, hr⟩ := h
  refine ⟨fun b => (zs.map (·.2)).idxOf (f b), h0, inner, by rw [List.length_zipIdx, List.length_map]; exact ho, by rw [List.length_zipIdx, List.length_map]; exact hr.1, fun j p hj => ?_⟩
  rw [List.getElem?_zipIdx, Nat.zero_add] at hj
  obtain ⟨x, hx, rfl⟩ := Option.map_eq_some_iff.1 hj
  rw [List.getElem?_map] at hx
  obtain ⟨z, hz, rfl⟩ := Option.map_eq_some_iff.1 hx
  refine d.M_mono (fun b hb => ⟨hb.1, ?_⟩) (hr.2 j z hz)
  have h2 : f b = z.2 := hb.2
  obtain ⟨hjl, hz2⟩ := List.getElem?_eq_some_iff.1 hz
  have h3 : z.2 = (zs.map (·.2))[j]'(by simpa using hjl) := by simp [hz2]
  show (zs.map (·.2)).idxOf (f b) = j
  rw [h2, h3]
  exact hnd.idxOf_getElem j _
/-- What is left behind a Drop. -/
def dropL (ns : List Int) (l : List S28) : List S28 := l.filter fun x => !hit ns x
theorem keep_list (ns : List Int) (l : List S28) : (l.zipIdx.filter (keep ns)).map (·.1) = dropL ns l := by
  unfold dropL
  have h : keep ns = (fun x => !hit ns x) ∘ (fun z : S28 × Nat => z.1) := rfl
  rw [h, ← List.filter_map]
  simp
theorem keep_nodup (ns : List Int) (l : List S28) : ((l.zipIdx.filter (keep ns)).map (·.2)).Nodup := by
  refine List.Sublist.nodup (List.Sublist.map _ (List.filter_sublist)) ?_
  have h : l.zipIdx.map (·.2) = List.range' 0 l.length := by simp
  rw [h]
  exact List.nodup_range'
set_option maxHeartbeats 1000000 in
theorem drop_up {w w0 : World} {ok : Nat → Prop} {g : Nat} {l : List S28} (h : NetUp w w0 ok g l) (A : Option Addr) (c : Nat) (ns : List Int) (hm : ∀ W', Kept w W' ok → Kd.C (Kd.int .i64) W' A ns.length ns) :
    Calls Try.prog 15 #[.pointer (some ⟨g, 0, none⟩), .slice A ns.length c] w fun e w' => e = .returned (.int .i64 ((l.length : Int) - (dropL ns l).length)) ∧ NetUp w' w0 (fun k => ok k ∨ w.heap.size ≤ k) g (dropL ns l) ∧ Kept w w' ok := by
  have HM := Aside0.mk hm
  by_cases hl : l.length = 0
  · obtain rfl : l = [] := List.eq_nil_of_length_eq_zero hl
    have HL := fun o => len_up (h.alloc o)
    have HH := Aside0.mk h
    clear h hm hl
    go_enter Try.func15, Try.ntmps15
    go_wp2_with (go_at_call 13; refine (HL _).mono ?_; rintro e w' ⟨rfl, rfl⟩)
    go_ret
    exact ⟨by simp [dropL], (HH.out.mono (fun k hk => .inl hk)).alloc _, (Kept.refl _ _).alloc _⟩
  · have HL := fun o => len_up (h.alloc o)
    have HH := Aside0.mk h
    obtain ⟨⟨v, hN⟩, hB⟩ := h
    obtain ⟨r, c2, rfl, hbr, hrs, _⟩ := Kd.S_form hN.row (by omega)
    have hlm : (l.length : Int) ≤ 9223372036854775807 := by obtain ⟨f, hf⟩ := hN.row; obtain ⟨h1, h2, _⟩ := R_room hf (by rw [List.length_zipIdx]); unfold maxLen at h2; omega
    have hdl : (dropL ns l).length ≤ l.length := List.length_filter_le _ _
    have zg : ∀ o, (w.alloc o).cell? ⟨g, 0, none⟩ = some (.slice (some ⟨r, 0, none⟩) l.length c2) := fun o => (blk_cell (blk_alloc hN.here o) 0).trans rfl
    have HN := Aside0.mk hN
    have HB := Aside0.mk hB
    clear hm hB hN
    go_enter Try.func15, Try.ntmps15
    go_wp2_with (go_at_call 13; refine (HL _).mono ?_; rintro e w' ⟨rfl, rfl⟩)
    obtain ⟨f, hR⟩ := HN.out.row
    have hrok : ok r := HN.out.in_ok r (.inr rfl)
    have hgr : g ≠ r := by
      intro e
      obtain ⟨cells, hc⟩ := Kd.S_typed HN.out.row r rfl
      rw [← e, HN.out.here] at hc
      cases hc
    have hgs := blk_lt HN.out.here
    refine (delfunc_calls f w0 (w.alloc (Obj.cells #[Value.slice A ns.length c] 36)) ok r l.length c2 l.zipIdx (HB.out.alloc HB.out.size _) (Kd.R_alloc hR _) (by rw [List.length_zipIdx]) A c ns w.heap.size (fun W' hk => HM.out W' (((Kept.refl w ok).alloc _).then_ hk (fun k hk => .inl (by rw [hk]; exact hrok)))) ((blk_cell (heap_alloc_new w _) 0).trans rfl) (by omega)).mono ?_
    rintro e w1 ⟨rfl, hR1, hB1, hK1⟩
    have hlen : (l.zipIdx.filter (keep ns)).length = (dropL ns l).length := by rw [← keep_list, List.length_map]
    have hg1 := (hK1.2 g (by simp; omega) hgr).trans (blk_alloc HN.out.here _)
    have HFIN : Aside0 (NetUp (w1.setCell ⟨g, 0, none⟩ (.slice (some ⟨r, 0, none⟩) (dropL ns l).length c2)) w0 (fun k => ok k ∨ w.heap.size ≤ k) g (dropL ns l) ∧ Kept w (w1.setCell ⟨g, 0, none⟩ (.slice (some ⟨r, 0, none⟩) (dropL ns l).length c2)) ok) := by
      rw [hlen] at hR1
      have hS := S_of_tags hR1 (keep_nodup ns l)
      rw [keep_list] at hS
      refine ⟨⟨⟨.slice (some ⟨r, 0, none⟩) (dropL ns l).length c2, ?_, .inl HN.out.mine, HN.out.young, Kd.S_mono (Kd.S_set hS hg1 e28 0 _) (fun k hk => .inl hk)⟩, hB1.setCell HN.out.young _⟩, ?_⟩
      · simpa using blk_set hg1 0 (.slice (some ⟨r, 0, none⟩) (dropL ns l).length c2)
      · exact (((Kept.refl w ok).alloc _).then_ hK1 (fun k hk => .inl (by rw [hk]; exact hrok))).setCell (p := ⟨g, 0, none⟩) (.inl HN.out.mine) _
    have HCELL : Aside0 ((w1.setCell ⟨g, 0, none⟩ (.slice (some ⟨r, 0, none⟩) (dropL ns l).length c2)).cell? ⟨g, 0, none⟩ = some (.slice (some ⟨r, 0, none⟩) (dropL ns l).length c2)) := ⟨(blk_cell (blk_set hg1 0 _) 0).trans rfl⟩
    have cg := (blk_cell hg1 0).trans rfl
    have fg := blk_frozen hg1 0
    clear hR1 hB1 hK1 hg1 hR
    rw [hlen]
    obtain ⟨m, hmm⟩ : ∃ m, m = (dropL ns l).length := ⟨_, rfl⟩
    rw [← hmm]
    have hdm : m ≤ l.length := by omega
    have HMM := Aside0.mk hmm
    clear hmm hdl hlen
    go_wp2_with fail
    refine (len_calls g (some ⟨r, 0, none⟩) m c2 _ ?_).mono ?_
    · rw [HMM.out]; exact HCELL.out
    rintro e w2 ⟨rfl, rfl⟩
    go_wp2
    go_ret
    refine ⟨?_, ?_⟩
    · rw [← HMM.out]
      rfl
    · rw [HMM.out]
      exact HFIN.out
end Go.Proofs.Ytmindpofjnicfaa.Hand
