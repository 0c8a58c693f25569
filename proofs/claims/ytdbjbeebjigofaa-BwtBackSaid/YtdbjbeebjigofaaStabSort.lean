import Derived.Test.YtdbjbeebjigofaaStabMain
import Derived.Test.YtdbjbeebjigofaaStab
/-! slices.SortStableFunc, whole. -/
namespace Go.Proofs.Try.Stab
set_option linter.unusedVariables false
set_option linter.unusedSimpArgs false
open Go.Shelf Go.RowKit Go.Lib Go.Sort Go.Proofs
set_option linter.unusedSectionVars false
variable {α : Type} [Inhabited α]
variable {enc : α → Value} {cf : α → α → Int} {at_ : α → Nat} {g : Nat} {cb : Array Value} {blk off N : Nat} {d0 : Array α} {w0 : World}

def ins_ren : Go.Shelf.Ren := ⟨fun | 20 => 40 | n => n, fun | 22 => 22 | 24 => 3 | 25 => 35 | n => n, fun | n => n⟩
theorem ins_lays : Go.Proofs.SlLaysF.n20 Try.prog ins_ren := {
  mixed := by kernel_rfl
  f20 := ⟨"slices.insertionSortCmpFunc[int]", by decide, Try.func40.trans (congrArg some (by kernel_rfl))⟩
  t0 := Try.underlying0
  a0 := Try.isAgg0
  z0 := Try.sizeOf0
  v0 := Try.zeroValue0
  t3 := Try.underlying3
  a3 := Try.isAgg3
  z3 := Try.sizeOf3
  v3 := Try.zeroValue3
  t4 := Try.underlying4
  a4 := Try.isAgg4
  z4 := Try.sizeOf4
  v4 := Try.zeroValue4
  t22 := Try.underlying22
  a22 := Try.isAgg22
  z22 := Try.sizeOf22
  v22 := Try.zeroValue22
  a24 := Try.isAgg3
  z24 := Try.sizeOf3
  t25 := Try.underlying35
  a25 := Try.isAgg35
  z25 := Try.sizeOf35
  v25 := Try.zeroValue35 }

/-- slices.insertionSortCmpFunc. -/
theorem insertion_calls (E : Env enc cf at_ g cb blk off N d0 w0) (cap : Nat) (w : World) (P A S : List α) (a b : Int) (ha : a = P.length) (hb : b = (P.length + A.length : Nat))
    (hN : (P ++ A ++ S).length = N) (hA : A.Pairwise (fun x y => at_ x < at_ y)) (S0 : SW enc w0 blk off (P ++ A ++ S).toArray w) :
    Calls Try.prog 40 #[.slice (some ⟨blk, off, none⟩) N cap, .int .i64 a, .int .i64 b, .func (.func g) #[] cb] w fun e w' =>
      e = .returned (.tuple #[]) ∧ ∃ M, SW enc w0 blk off (P ++ M ++ S).toArray w' ∧ M.Perm A ∧ M.Pairwise (R (ltOf cf) at_) := by
  subst ha hb
  obtain ⟨M, hM, hp, hs⟩ := insertion_list (lt := ltOf cf) E.ord P A S P.length (P.length + A.length) rfl rfl hA
  have hz : (P ++ A ++ S).toArray.size = N := by rw [List.size_toArray]; exact hN
  have hd : d0.size = (P ++ A ++ S).toArray.size := by rw [hz, E.size]
  have hlen : P.length + A.length ≤ N := by rw [← hN]; simp
  have h := Any.insertionSortCmpFunc_s ins_lays enc cf g cb blk off cap P.length (P.length + A.length) d0 (P ++ A ++ S).toArray w0 w E.eg (by rw [E.size]; exact E.cmp) E.row hd S0 (by omega) (by rw [hz]; exact hlen) (by rw [hz]; exact E.fit)
  rw [hz] at h
  refine h.mono ?_
  rintro e w' ⟨he, hS⟩
  exact ⟨he, M, by rw [← hM]; exact hS, hp, hs⟩

/-- slices.symMergeCmpFunc. -/
theorem merge_all (E : Env enc cf at_ g cb blk off N d0 w0) (cap k : Nat) : MergeAt enc cf at_ g cb blk off N w0 cap k := by
  induction k with
  | zero =>
    intro w P A B S a m b _ _ _ _ hA0 _ hk
    have := List.length_pos_iff.2 hA0
    omega
  | succ k ih =>
    intro w P A B S a m b ha hm hb hN hA0 hB0 hk hA hB hC S0
    have hal := List.length_pos_iff.2 hA0
    have hbl := List.length_pos_iff.2 hB0
    by_cases h1 : A.length = 1
    · obtain ⟨x, rfl⟩ := List.length_eq_one_iff.1 h1
      exact merge_one E cap w P x B S a m b ha hm hb hN hB hC S0
    · by_cases h2 : B.length = 1
      · obtain ⟨y, rfl⟩ := List.length_eq_one_iff.1 h2
        exact merge_last E cap w P A y S a m b ha hm hb hN (by omega) hA hC S0
      · exact merge_main E cap k ih w P A B S a m b ha hm hb hN (by omega) (by omega) hk hA hB hC S0

theorem merge_calls (E : Env enc cf at_ g cb blk off N d0 w0) (cap : Nat) (w : World) (D : List (List α)) (A B : List α) (T : List (List α)) (a m b : Int) (ha : a = D.flatten.length)
    (hm : m = (D.flatten.length + A.length : Nat)) (hb : b = (D.flatten.length + A.length + B.length : Nat)) (hN : (D ++ A :: B :: T).flatten.length = N) (hA0 : A ≠ []) (hB0 : B ≠ [])
    (hG : Good (ltOf cf) at_ (D ++ A :: B :: T)) (S0 : SW enc w0 blk off (D ++ A :: B :: T).flatten.toArray w) :
    Calls Try.prog 41 #[.slice (some ⟨blk, off, none⟩) N cap, .int .i64 a, .int .i64 m, .int .i64 b, .func (.func g) #[] cb] w fun e w' =>
      e = .returned (.tuple #[]) ∧ ∃ M, SW enc w0 blk off (D ++ M :: T).flatten.toArray w' ∧ Good (ltOf cf) at_ (D ++ M :: T) ∧ M.length = A.length + B.length ∧ (D ++ M :: T).flatten.Perm (D ++ A :: B :: T).flatten := by
  obtain ⟨h1, h2, h3⟩ := hG.pair
  have e1 : (D ++ A :: B :: T).flatten = D.flatten ++ (A ++ B) ++ T.flatten := by simp
  rw [e1] at S0 hN
  refine (merge_all E cap _ w D.flatten A B T.flatten a m b ha hm hb hN hA0 hB0 (Nat.le_refl _) h1 h2 h3 S0).mono ?_
  rintro e w' ⟨he, M, hS, hp, hs⟩
  have e2 : (D ++ M :: T).flatten = D.flatten ++ M ++ T.flatten := by simp
  exact ⟨he, M, by rw [e2]; exact hS, hG.merged hp hs, by rw [hp.length_eq, List.length_append], by rw [e1, e2]; exact (hp.append_left D.flatten).append_right T.flatten⟩

/-- While the parts of twenty are sorted. -/
structure Ph1 (lt : α → α → Bool) (at_ : α → Nat) (N : Nat) (L0 : List α) (a : Nat) (D : List (List α)) (S : List α) : Prop where
  len : D.flatten.length = a
  full : ∀ X ∈ D, X.length = 20
  good : Good lt at_ D
  cross : ∀ X ∈ D, Cross at_ X S
  raw : S.Pairwise (fun x y => at_ x < at_ y)
  perm : (D.flatten ++ S).Perm L0
  size : (D.flatten ++ S).length = N

/-- While the chunks are merged two by two. -/
structure Ph2 (lt : α → α → Bool) (at_ : α → Nat) (N : Nat) (L0 : List α) (bs a : Nat) (D T : List (List α)) : Prop where
  len : D.flatten.length = a
  full : ∀ X ∈ D, X.length = 2 * bs
  good : Good lt at_ (D ++ T)
  chunks : Chunky bs T
  perm : (D ++ T).flatten.Perm L0
  size : (D ++ T).flatten.length = N

theorem Ph1.start {lt : α → α → Bool} {L0 : List α} (h : L0.Pairwise (fun x y => at_ x < at_ y)) (hN : L0.length = N) : Ph1 lt at_ N L0 0 [] L0 :=
  ⟨rfl, fun _ h => by simp at h, ⟨fun _ h => by simp at h, List.Pairwise.nil⟩, fun _ h => by simp at h, h, by simp, by simpa using hN⟩

theorem Ph1.next {lt : α → α → Bool} {L0 : List α} {a : Nat} {D : List (List α)} {A S M : List α} (h : Ph1 lt at_ N L0 a D (A ++ S)) (hA : A.length = 20) (hp : M.Perm A) (hs : M.Pairwise (R lt at_)) :
    Ph1 lt at_ N L0 (a + 20) (D ++ [M]) S := by
  have hr := List.pairwise_append.1 h.raw
  refine ⟨by simp [← h.len, hp.length_eq, hA], fun X hX => ?_, h.good.put h.cross hp hs, fun X hX => ?_, hr.2.1, ?_, ?_⟩
  · rcases List.mem_append.1 hX with hX | hX
    · exact h.full X hX
    · simp at hX; rw [hX, hp.length_eq, hA]
  · rcases List.mem_append.1 hX with hX | hX
    · exact (h.cross X hX).sub (fun _ h => h) (fun x hx => List.mem_append_right _ hx)
    · simp at hX; rw [hX]; exact fun x hx y hy => hr.2.2 x (hp.mem_iff.1 hx) y hy
  · refine List.Perm.trans ?_ h.perm
    have : (D ++ [M]).flatten ++ S = D.flatten ++ (M ++ S) := by simp
    rw [this]
    exact (hp.append_right S).append_left _
  · have := h.size
    simp at this ⊢
    have := hp.length_eq
    omega

theorem Ph1.done {lt : α → α → Bool} {L0 : List α} {a : Nat} {D : List (List α)} {S M : List α} (h : Ph1 lt at_ N L0 a D S) (hS : S.length < 20) (hp : M.Perm S) (hs : M.Pairwise (R lt at_)) :
    ∃ Ls : List (List α), Ls.flatten = D.flatten ++ M ∧ Ph2 lt at_ N L0 20 0 [] Ls := by
  have hl := hp.length_eq
  have hg : Good lt at_ (D ++ [M]) := h.good.put (B := []) (by simpa using h.cross) hp hs
  have hperm : (D.flatten ++ M).Perm L0 := (hp.append_left _).trans h.perm
  have hsz : (D.flatten ++ M).length = N := by rw [← h.size]; simp [hl]
  by_cases h0 : M = []
  · refine ⟨D, by rw [h0]; simp, rfl, fun _ h => by simp at h, ⟨fun X hX => hg.sorted X (by simp at hX; simp [hX]), by simpa using (List.pairwise_append.1 hg.cross).1⟩, ?_, by simpa [h0] using hperm, by simpa [h0] using hsz⟩
    simpa using chunky_of_full (bs := 20) D [] h.full (by omega) trivial
  · refine ⟨D ++ [M], by simp, rfl, fun _ h => by simp at h, by simpa using hg, ?_, by simpa using hperm, by simpa using hsz⟩
    exact chunky_of_full (bs := 20) D [M] h.full (by omega) ⟨h0, by omega⟩

theorem Ph2.next {lt : α → α → Bool} {L0 : List α} {bs a : Nat} {D T : List (List α)} {A B M : List α} (h : Ph2 lt at_ N L0 bs a D (A :: B :: T)) (hA : A.length = bs) (hB : B.length = bs) (hT : Chunky bs T)
    (hg : Good lt at_ (D ++ M :: T)) (hl : M.length = A.length + B.length) (hp : (D ++ M :: T).flatten.Perm (D ++ A :: B :: T).flatten) : Ph2 lt at_ N L0 bs (a + 2 * bs) (D ++ [M]) T := by
  have e : D ++ [M] ++ T = D ++ M :: T := by simp
  refine ⟨by simp [← h.len, hl, hA, hB]; omega, fun X hX => ?_, by rw [e]; exact hg, hT, by rw [e]; exact hp.trans h.perm, by rw [e, hp.length_eq]; exact h.size⟩
  rcases List.mem_append.1 hX with hX | hX
  · exact h.full X hX
  · simp at hX; rw [hX]; omega

/-- The round is done: nothing is left that wants a merge. -/
theorem Ph2.turn {lt : α → α → Bool} {L0 : List α} {bs a : Nat} {D T : List (List α)} (h : Ph2 lt at_ N L0 bs a D T) (h0 : 0 < bs) (hT : T = [] ∨ ∃ A, T = [A] ∧ A ≠ [] ∧ A.length ≤ 2 * bs) :
    Ph2 lt at_ N L0 (bs * 2) 0 [] (D ++ T) := by
  refine ⟨rfl, fun _ h => by simp at h, h.good, chunky_of_full D T (fun X hX => by rw [h.full X hX]; omega) (by omega) ?_, h.perm, h.size⟩
  rcases hT with rfl | ⟨A, rfl, h1, h2⟩
  · trivial
  · exact ⟨h1, by omega⟩

theorem Ph2.fin {lt : α → α → Bool} {L0 : List α} {bs : Nat} {Ls : List (List α)} (h : Ph2 lt at_ N L0 bs 0 [] Ls) (hbs : N ≤ bs) : Ls.flatten.Perm L0 ∧ Ls.flatten.Pairwise (R lt at_) := by
  have hp := h.perm
  have hs := h.size
  have hg := h.good
  simp only [List.nil_append] at hp hs hg
  refine ⟨hp, ?_⟩
  rcases h.chunks.one (by omega) with rfl | ⟨A, rfl⟩
  · simp
  · simpa using hg.sorted A (by simp)


set_option maxHeartbeats 16000000 in
set_option maxRecDepth 1000000 in
/-- slices.stableCmpFunc. -/
theorem stable_calls (E : Env enc cf at_ g cb blk off N d0 w0) (cap : Nat) (w : World) (L0 : List α) (n : Int) (hn : n = N) (hN : L0.length = N) (hN2 : N ≤ 1000000) (hL : L0.Pairwise (fun x y => at_ x < at_ y))
    (S0 : SW enc w0 blk off L0.toArray w) :
    Calls Try.prog 33 #[.slice (some ⟨blk, off, none⟩) N cap, .int .i64 n, .func (.func g) #[] cb] w fun e w' =>
      e = .returned (.tuple #[]) ∧ ∃ M : List α, SW enc w0 blk off M.toArray w' ∧ M.Perm L0 ∧ M.Pairwise (R (ltOf cf) at_) := by
  subst hn
  have EE : Aside _ := E
  have HL : Aside _ := hL
  have HN : Hid (L0.length = N) := hN
  have S1 : Aside (SW enc w0 blk off L0.toArray w) := S0
  clear E hL hN S0
  go_enter Try.func33, Try.ntmps33
  go_wp2
  go_loopg [7, 8] N (fun kx s7 s8 wr => ∃ (a : Nat) (D : List (List α)) (S : List α), s7 = .int .i64 a ∧ s8 = .int .i64 ((a : Int) + 20) ∧ a ≤ N ∧ N - a ≤ kx ∧ Aside (Ph1 (ltOf cf) at_ N L0 a D S) ∧ Aside (SW enc w0 blk off (D.flatten ++ S).toArray wr))
  case atStart => exact ⟨0, [], L0, rfl, rfl, by omega, by omega, Ph1.start HL.out HN.out, by simpa using S1⟩
  case round =>
    clear S1
    obtain ⟨a, D, S, rfl, rfl, haN, hg, HP, S1⟩ := hrel
    by_cases hlt : a + 20 ≤ N
    · have hltz : (a : Int) + 20 ≤ (N : Int) := by omega
      have hsl : 20 ≤ S.length := by have h1 := HP.out.size; have h2 := HP.out.len; simp at h1 h2; omega
      have hc : Calls Try.prog 40 #[.slice (some ⟨blk, off, none⟩) N cap, .int .i64 (a : Int), .int .i64 ((a : Int) + 20), .func (.func g) #[] cb] wr fun e w' =>
          e = .returned (.tuple #[]) ∧ ∃ (D2 : List (List α)) (S2 : List α), Aside (Ph1 (ltOf cf) at_ N L0 (a + 20) D2 S2) ∧ Aside (SW enc w0 blk off (D2.flatten ++ S2).toArray w') := by
        have hS := S1.out
        have hP := HP.out
        obtain ⟨A, S', rfl, hA⟩ : ∃ A S', S = A ++ S' ∧ A.length = 20 := ⟨S.take 20, S.drop 20, (List.take_append_drop _ _).symm, by simp; omega⟩
        have h := insertion_calls EE.out cap wr D.flatten A S' a ((a : Int) + 20) (by rw [hP.len]) (by rw [hP.len, hA]; omega) (by simpa using hP.size) (List.pairwise_append.1 hP.raw).1 (by simpa using hS)
        refine h.mono ?_
        rintro e w' ⟨he, M, hS, hp, hs⟩
        exact ⟨he, D ++ [M], S', hP.next hA hp hs, (show SW _ _ _ _ _ _ from by simpa using hS)⟩
      clear S1
      go_wp2_with (go_at_call 40; refine hc.mono ?_; rintro e w1 ⟨rfl, D2, S2, HP2, HS2⟩)
      go_roundg (N - (a + 20))
      case measure => omega
      case rel => exact ⟨a + 20, D2, S2, by go_num, by go_num, by omega, Nat.le_refl _, HP2, HS2⟩
    · have hltz : ¬ (a : Int) + 20 ≤ (N : Int) := by omega
      have hc : Calls Try.prog 40 #[.slice (some ⟨blk, off, none⟩) N cap, .int .i64 (a : Int), .int .i64 (N : Int), .func (.func g) #[] cb] wr fun e w' =>
          e = .returned (.tuple #[]) ∧ ∃ Ls : List (List α), Aside (Ph2 (ltOf cf) at_ N L0 20 0 [] Ls) ∧ Aside (SW enc w0 blk off Ls.flatten.toArray w') := by
        have hS := S1.out
        have hP := HP.out
        have h1 := hP.size
        have h2 := hP.len
        rw [List.length_append] at h1
        have h := insertion_calls EE.out cap wr D.flatten S [] a N (by rw [hP.len]) (by omega) (by simpa using hP.size) hP.raw (by simpa using hS)
        refine h.mono ?_
        rintro e w' ⟨he, M, hS, hp, hs⟩
        obtain ⟨Ls, hl, hq⟩ := hP.done (by omega) hp hs
        exact ⟨he, Ls, hq, (show SW _ _ _ _ _ _ from by rw [hl]; simpa using hS)⟩
      clear S1
      go_wp2_with (go_at_call 40; refine hc.mono ?_; rintro e w1 ⟨rfl, Ls, HQ, HS⟩)
      clear hc HP
      go_loopg [6] N (fun kx s6 wr => ∃ (bs : Nat) (Ls : List (List α)), s6 = .int .i64 bs ∧ 20 ≤ bs ∧ bs ≤ 2000000 ∧ N - bs ≤ kx ∧ Aside (Ph2 (ltOf cf) at_ N L0 bs 0 [] Ls) ∧ Aside (SW enc w0 blk off Ls.flatten.toArray wr))
      case atStart => exact ⟨20, Ls, rfl, by omega, by omega, by omega, HQ, HS⟩
      case round =>
        clear HQ HS Ls
        obtain ⟨bs, Ls, rfl, hb1, hb2, hgb, HQ, HS⟩ := hrel
        by_cases hlt2 : bs < N
        · have hlt2z : (bs : Int) < (N : Int) := by omega
          go_wp2
          go_loopg [7, 8] N (fun kx s7 s8 wr => ∃ (a : Nat) (D T : List (List α)), s7 = .int .i64 a ∧ s8 = .int .i64 ((a : Int) + 2 * (bs : Int)) ∧ a ≤ N ∧ N - a ≤ kx ∧ Aside (Ph2 (ltOf cf) at_ N L0 bs a D T) ∧ Aside (SW enc w0 blk off (D ++ T).flatten.toArray wr))
          case atStart => exact ⟨0, [], Ls, rfl, by go_num, by omega, by omega, HQ, HS⟩
          case round =>
            clear HQ HS Ls
            obtain ⟨a, D, T, rfl, rfl, haN, hg, HQ, HS⟩ := hrel
            by_cases hlt3 : a + 2 * bs ≤ N
            · have hlt3z : (a : Int) + 2 * (bs : Int) ≤ (N : Int) := by omega
              have hc : Calls Try.prog 41 #[.slice (some ⟨blk, off, none⟩) N cap, .int .i64 (a : Int), .int .i64 ((a : Int) + (bs : Int)), .int .i64 ((a : Int) + 2 * (bs : Int)), .func (.func g) #[] cb] wr fun e w' =>
                  e = .returned (.tuple #[]) ∧ ∃ (D2 T2 : List (List α)), Aside (Ph2 (ltOf cf) at_ N L0 bs (a + 2 * bs) D2 T2) ∧ Aside (SW enc w0 blk off (D2 ++ T2).flatten.toArray w') := by
                have hS := HS.out
                have hP := HQ.out
                have h1 := hP.size
                have h2 := hP.len
                rw [List.flatten_append, List.length_append] at h1
                obtain ⟨A, B, T', rfl, hA, hB, hT⟩ := hP.chunks.two (by omega) (by omega)
                have hA0 : A ≠ [] := by intro e; rw [e] at hA; simp at hA; omega
                have hB0 : B ≠ [] := by intro e; rw [e] at hB; simp at hB; omega
                refine (merge_calls EE.out cap wr D A B T' a _ _ (by rw [h2]) (by rw [h2, hA]; omega) (by rw [h2, hA, hB]; omega) hP.size hA0 hB0 hP.good hS).mono ?_
                rintro e w' ⟨he, M, hS, hg, hl, hp⟩
                exact ⟨he, D ++ [M], T', hP.next hA hB hT hg hl hp, (show SW _ _ _ _ _ _ from by simpa using hS)⟩
              clear HS
              go_wp2_with (go_at_call 41; refine hc.mono ?_; rintro e w1 ⟨rfl, D2, T2, HQ2, HS2⟩)
              go_roundg (N - (a + 2 * bs))
              case measure => omega
              case rel => exact ⟨a + 2 * bs, D2, T2, by go_num, by go_num, by omega, Nat.le_refl _, HQ2, HS2⟩
            · have hlt3z : ¬ (a : Int) + 2 * (bs : Int) ≤ (N : Int) := by omega
              by_cases hm : a + bs < N
              · have hmz : (a : Int) + (bs : Int) < (N : Int) := by omega
                have hc : Calls Try.prog 41 #[.slice (some ⟨blk, off, none⟩) N cap, .int .i64 (a : Int), .int .i64 ((a : Int) + (bs : Int)), .int .i64 (N : Int), .func (.func g) #[] cb] wr fun e w' =>
                    e = .returned (.tuple #[]) ∧ ∃ Ls : List (List α), Aside (Ph2 (ltOf cf) at_ N L0 (bs * 2) 0 [] Ls) ∧ Aside (SW enc w0 blk off Ls.flatten.toArray w') := by
                  have hS := HS.out
                  have hP := HQ.out
                  have h1 := hP.size
                  have h2 := hP.len
                  rw [List.flatten_append, List.length_append] at h1
                  rcases hP.chunks.few (by omega) (by omega) with rfl | ⟨A, rfl, hA0, hA⟩ | ⟨A, B, rfl, hA, hB0, hB⟩
                  · simp only [List.flatten_nil, List.length_nil] at h1; omega
                  · simp only [List.flatten_cons, List.flatten_nil, List.length_append, List.length_nil] at h1; omega
                  · have hA0 : A ≠ [] := by intro e; rw [e] at hA; simp at hA; omega
                    simp only [List.flatten_cons, List.flatten_nil, List.length_append, List.length_nil] at h1
                    refine (merge_calls EE.out cap wr D A B [] a _ _ (by rw [h2]) (by rw [h2, hA]; omega) (by rw [h2]; omega) hP.size hA0 hB0 hP.good hS).mono ?_
                    rintro e w' ⟨he, M, hS, hg, hl, hp⟩
                    refine ⟨he, D ++ [M], ?_, hS⟩
                    refine ⟨rfl, fun _ h => by simp at h, hg, chunky_of_full D [M] (fun X hX => by rw [hP.full X hX]; omega) (by omega) ⟨by intro e; rw [e] at hl; simp at hl; omega, by omega⟩, hp.trans hP.perm, by rw [List.nil_append, hp.length_eq]; exact hP.size⟩
                clear HS
                go_wp2_with (go_at_call 41; refine hc.mono ?_; rintro e w1 ⟨rfl, Ls, HQ2, HS2⟩)
                go_roundg (N - bs * 2)
                case measure => omega
                case rel => exact ⟨bs * 2, Ls, by go_num, by omega, by omega, Nat.le_refl _, HQ2, HS2⟩
              · have hmz : ¬ (a : Int) + (bs : Int) < (N : Int) := by omega
                have HQ2 : Aside (Ph2 (ltOf cf) at_ N L0 (bs * 2) 0 [] (D ++ T)) := by
                  have hP := HQ.out
                  have h1 := hP.size
                  have h2 := hP.len
                  rw [List.flatten_append, List.length_append] at h1
                  refine hP.turn (by omega) ?_
                  rcases hP.chunks.few (by omega) (by omega) with rfl | ⟨A, rfl, hA0, hA⟩ | ⟨A, B, rfl, hA, hB0, hB⟩
                  · exact Or.inl rfl
                  · exact Or.inr ⟨A, rfl, hA0, by omega⟩
                  · have := List.length_pos_iff.2 hB0
                    simp only [List.flatten_cons, List.flatten_nil, List.length_append, List.length_nil] at h1; omega
                go_wp2
                go_roundg (N - bs * 2)
                case measure => omega
                case rel => exact ⟨bs * 2, D ++ T, by go_num, by omega, by omega, Nat.le_refl _, HQ2, HS⟩
        · have hlt2z : ¬ (bs : Int) < (N : Int) := by omega
          go_wp2
          go_end0
          exact ⟨rfl, Ls.flatten, HS.out, HQ.out.fin (by omega)⟩

end Go.Proofs.Try.Stab
