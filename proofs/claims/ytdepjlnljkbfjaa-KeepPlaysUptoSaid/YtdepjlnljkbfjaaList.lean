/- The names of a disk's files, as the library sorts them. -/
import Derived.Test.YtdepjlnljkbfjaaCrash
import Derived.Sort.KeysCollected
import Derived.Test.YtdepjlnljkbfjaaIter
namespace Go.Proofs.Ytdepjlnljkbfjaa.Hand
open Go.RowKit Go.Maps Go.Sort Go.Proofs.Ytdepjlnljkbfjaa.MapP
set_option linter.unusedVariables false
theorem HasMap.keys {P : Program} {kT : TypeId} {W : World} {m : Nat} {fm : List (Key × Nat)} (h : HasMap P kT W m fm) (hk : P.underlying kT = some .string) :
    ∃ D, W.ownsMap P kT ptrElem m fm.length D ∧ Maps.size D = fm.length ∧ (fm.map (·.1)).Perm (strKeys D) := by
  obtain ⟨D, hown, R⟩ := h
  refine ⟨D, hown, R.size, ?_⟩
  obtain ⟨es, hD, hpw, _⟩ := hown.entries (string_keyed hk)
  obtain ⟨es', hD', hko⟩ := hown.keysOf
  obtain rfl : es = es' := by rw [hD] at hD'; simpa using hD'
  have hhas := R.has
  subst hD
  refine perm_strKeys hpw (fun p hp => ?_) R.once (fun x => ?_)
  · obtain ⟨v, hv⟩ := hko p hp
    obtain ⟨x, _, hx, _⟩ := Maps.keyOf_str hk hv
    exact ⟨x, hx⟩
  · rw [hhas x, at_isSome]
    constructor
    · intro hx
      obtain ⟨p, hp, e⟩ := List.mem_map.1 hx
      exact ⟨p, hp, e⟩
    · rintro ⟨p, hp, e⟩
      exact List.mem_map.2 ⟨p, hp, e⟩
end Go.Proofs.Ytdepjlnljkbfjaa.Hand

/- List of a disk with one file. -/
namespace Go.Proofs.Ytdepjlnljkbfjaa.Hand
open Go.RowKit Go.Maps Go.Sort Go.Shelf Go.Proofs.Ytdepjlnljkbfjaa.MapP Go.Proofs.YtdepjlnljkbfjaaW.PrintWords Go.Proofs.YtdepjlnljkbfjaaW.PrintLast Go.Proofs.YtdepjlnljkbfjaaW.PrintMore
attribute [local go_sem] max2_int min2_int
set_option linter.unusedVariables false
set_option linter.unusedSimpArgs false
set_option linter.unusedSectionVars false
section
variable {w w0 W W' : World} {d m : Nat} {ok : Nat → Prop} {S S' : DV} {F : FL} {k : Key} {y : FV}
theorem list_row (h : DiskUp w w0 ok d S) : Calls Try.prog 25 #[.pointer (some ⟨d, 0, none⟩)] w fun e w' => ∃ (v : Value) (ss : List (List UInt8)), e = .returned v ∧ ss.Perm (S.L.map (·.1)) ∧
    w'.ownsRow (w.heap.size + 1) 9 1 v ss.length ((ss.mergeSort (fun x y => decide (x ≤ y))).map encStr) ∧ DiskUp w' w0 ok d S ∧ Below w.heap.size w w' := by
  have HD := Aside0.mk h
  obtain ⟨⟨m, F, hi, hft⟩, hB0, hf⟩ := h
  have h1 := hi.head.c1
  obtain ⟨D, hown, hsize, hperm⟩ := HasMap.keys hi.map Try.underlying9
  have hlen : (gm F).length = S.L.length := by rw [hi.val]; simp [gm, xm]
  have hmany := hf.many
  have hk := callsIn_wide.1 (Try.maps_Keys_61 (some m) w)
  have hs := callsIn_wide.1 (Try.slices_Sorted_keys_60_61 m _ D ptrElem w hown (by unfold maxLen; omega) (by omega))
  have hp2 : (gm F).map (·.1) = S.L.map (·.1) := by rw [hi.val]; simp [gm, xm]
  rw [hp2] at hperm
  have HK := Aside0.mk hk
  have HS := Aside0.mk hs
  have HP := Aside0.mk hperm
  clear hk hs hperm hp2 hown hi hft hB0 hf
  go_enter Try.func25, Try.ntmps25
  go_wp2_with (first | (go_at_call 61; refine HK.out.mono ?_; rintro e w1 ⟨rfl, rfl⟩) | (go_at_call 60; refine HS.out.mono ?_; rintro e w2 ⟨v, ss, rfl, hpm, hrow, _, hb⟩))
  go_ret
  have hbel : Below w.heap.size w w2 := ((Below.refl w.heap.size w).alloc (Nat.le_refl _) _).trans (hb.mono (by simp))
  refine ⟨v, ss, rfl, hpm.trans HP.out.symm, ?_, HD.out.kept (Kept.of_below hbel (fun _ => False)) (fun _ _ h => h) (HD.out.below.trans (hbel.mono HD.out.below.size)), hbel⟩
  have e : (w.alloc (.cells #[.map (some m)] 66)).heap.size = w.heap.size + 1 := by simp
  rw [e] at hrow
  exact hrow
theorem list_one (h : DiskUp w w0 ok d S) (x : List Int × Nat) (hL : S.L = [(k, x)]) : Calls Try.prog 25 #[.pointer (some ⟨d, 0, none⟩)] w fun e w' => ∃ (A : Option Addr) (c : Nat), e = .returned (.slice A 1 c) ∧ 1 ≤ c ∧ Kd.C Kd.string w' A 1 [⟨k.toArray⟩] ∧ DiskUp w' w0 ok d S ∧ Below w.heap.size w w' := by
  refine (list_row h).mono ?_
  rintro e w' ⟨v, ss, rfl, hp, hrow, hd, hb⟩
  rw [hL] at hp
  have hss : ss = [k] := List.perm_singleton.1 hp
  subst hss
  rcases hrow.2 with ⟨_, h0⟩ | ⟨g, cap, cur, rfl, _, hblk, h1, h2, h3, h4⟩
  · simp at h0
  · simp only [List.length_singleton] at h1 h3 h4 ⊢
    refine ⟨_, cap, rfl, h1, ?_, hd, hb⟩
    refine Kd.C_of_reads (d := ByteArray.empty) (h1 := fun _ => rfl) ⟨rfl, by decide, fun _ => ⟨_, rfl, fun j hj => ?_⟩⟩
    obtain rfl : j = 0 := by omega
    have h5 : cur[0]? = some (encStr k) := by
      have h6 : (cur.toList.take 1)[0]? = some (encStr k) := by
        have : [k].mergeSort (fun x y => decide (x ≤ y)) = [k] := by simp
        rw [this] at h4
        have h7 := congrArg (fun l => l[0]?) h4
        exact h7.trans rfl
      rw [List.getElem?_take] at h6
      simpa using h6
    rw [Addr.add_lit, Nat.zero_add, blk_cell hblk 0, h5]
    rfl
end
end Go.Proofs.Ytdepjlnljkbfjaa.Hand
