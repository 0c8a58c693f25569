/- What keep's calls make of the reference's disk, and of both: the same; and that a disk's rows stay rows of bytes. -/
import Derived.Test.YtdepjlnljkbfjaaPairK
import Derived.Test.YtdepjlnljkbfjaaClear
import Derived.Test.YtdepjlnljkbfjaaSave
namespace Go.Proofs.Ytdepjlnljkbfjaa.Hand
open Go.RowKit Go.Proofs.Ytdepjlnljkbfjaa.PA Go.Proofs.Ytdepjlnljkbfjaa.MapP Go.Proofs.YtdepjlnljkbfjaaW.PrintWords Go.Proofs.YtdepjlnljkbfjaaW.PrintLast Go.Proofs.YtdepjlnljkbfjaaW.PrintMore
set_option linter.unusedVariables false
set_option linter.unusedSimpArgs false
set_option linter.unusedSectionVars false
def AllB (L : KL) : Prop := ∀ p ∈ L, Bytes p.2.1
section
variable {S S' : DV} {R R' : RV} {k : Key} {L : KL} {x : List Int × Nat}
theorem AllB.at_ (h : AllB L) (hk : MapP.at_ L k = some x) : Bytes x.1 := by
  unfold MapP.at_ at hk
  cases hf : L.find? (fun p => p.1 == k) with
  | none => rw [hf] at hk; cases hk
  | some p =>
    rw [hf] at hk
    injection hk with hk
    subst hk
    exact h p (List.mem_of_find?_eq_some hf)
theorem AllB.old (h : AllB L) (k : Key) : Bytes ((MapP.at_ L k).getD ([], 0)).1 := by
  cases hk : MapP.at_ L k with
  | none => intro z hz; cases hz
  | some x => exact h.at_ hk
theorem AllB.put (h : AllB L) (k : Key) (hx : Bytes x.1) : AllB (MapP.put L k x) := by
  intro p hp
  unfold MapP.put at hp
  split at hp
  · obtain ⟨q, hq, rfl⟩ := List.mem_map.1 hp
    split
    · exact hx
    · exact h q hq
  · rcases List.mem_append.1 hp with hp | hp
    · exact h p hp
    · rw [List.mem_singleton.1 hp]; exact hx
theorem AllB.del (h : AllB L) (k : Key) : AllB (MapP.del L k) := fun p hp => h p (List.mem_filter.1 hp).1
theorem AllB.append (h : AllB S.L) (s : ByteArray) {xs : List Int} (hx : Bytes xs) : AllB (appendV S s xs).2.L := by
  unfold appendV
  split
  · exact h
  · split
    · exact h
    · exact h.put _ (bytes_app (h.old _) hx)
theorem AllB.one (h : AllB S.L) (f : List Int × Nat → Option (List Int × Nat)) (hf : ∀ x y, f x = some y → y.1 = x.1) (s : ByteArray) : AllB (oneV f S s).2.L := by
  unfold oneV
  split
  · exact h
  · cases hk : MapP.at_ S.L s.data.toList with
    | none => exact h
    | some x =>
      simp only
      cases hy : f x with
      | none => exact h.del _
      | some y => exact h.put _ (by rw [hf x y hy]; exact h.at_ hk)
theorem AllB.sync (h : AllB S.L) (s : ByteArray) : AllB (oneV syncX S s).2.L := h.one _ (fun x y e => by unfold syncX at e; injection e with e; rw [← e]) s
theorem AllB.remove (h : AllB S.L) (s : ByteArray) : AllB (oneV removeX S s).2.L := h.one _ (fun x y e => by unfold removeX at e; cases e) s
theorem AllB.rename (h : AllB S.L) (s t : ByteArray) : AllB (renameV S s t).2.L := by
  unfold renameV
  split
  · exact h
  · cases hk : MapP.at_ S.L s.data.toList with
    | none => exact h
    | some x => exact (h.del _).put _ (h.at_ hk)
theorem AllB.crash (h : AllB S.L) (n : Int) : AllB (crashV n S).L := by
  intro p hp
  obtain ⟨q, hq, rfl⟩ := List.mem_map.1 hp
  exact bytes_take (h q hq) _
theorem AllB.saveT (h : AllB S.L) (t s : ByteArray) {xs : List Int} (hx : Bytes xs) : AllB (saveT S t s xs).2.L := by
  unfold Hand.saveT
  have h1 := h.append t (encF_bytes hx)
  split
  · exact h1
  · split
    · exact h1.sync t
    · exact (h1.sync t).rename t s
theorem AllB.save (h : AllB S.L) (s : ByteArray) {xs : List Int} (hx : Bytes xs) : AllB (saveV S s xs).2.L := by
  unfold saveV
  split
  · exact h
  · split
    · exact h
    · split
      · split
        · exact h.remove _
        · exact (h.remove _).saveT _ _ hx
      · exact h.saveT _ _ hx
theorem AllB.clear (p : Key) (stay : List ByteArray) : ∀ (ks : List Key) (S : DV), AllB S.L → AllB (clearV p stay S ks).2.L
  | [], S, h => h
  | k :: ks, S, h => by
    unfold clearV
    split
    · split
      · exact h.remove _
      · exact AllB.clear p stay ks _ (h.remove _)
    · exact AllB.clear p stay ks S h
/-- keep.Save on the reference's disk. -/
def wholeT (R : RV) (t s : ByteArray) (b : List Int) : Int × RV :=
  if (appendR R t b).1 ≠ 0 then appendR R t b
  else if (syncR (appendR R t b).2 t).1 ≠ 0 then syncR (appendR R t b).2 t
  else renR (syncR (appendR R t b).2 t).2 t s
def wholeR (R : RV) (s : ByteArray) (b : List Int) : Int × RV :=
  if spotB R.L (shK s).data.toList = true then (if (removeR R (shK s)).1 ≠ 0 then removeR R (shK s) else wholeT (removeR R (shK s)).2 (shK s) s b)
  else wholeT R (shK s) s b
def saveR (R : RV) (s : ByteArray) (xs : List Int) : Int × RV :=
  if s.size < 1 ∨ 60 < s.size then (1, R) else if 1048576 < xs.length then (5, R) else wholeR R s (encF xs)
def clearR (p : Key) (stay : List ByteArray) : RV → List Key → Int × RV
  | R, [] => (0, R)
  | R, k :: ks => if takeB p stay k = true then (if (removeR R (byK k)).1 ≠ 0 then removeR R (byK k) else clearR p stay (removeR R (byK k)).2 ks) else clearR p stay R ks
def loadR (R : RV) (s : ByteArray) : List Int × Int :=
  if (readRV R s.data.toList).2 ≠ 0 then ([], 7) else if (oneF (readRV R s.data.toList).1).2 ≠ 0 then ([], 3) else ((oneF (readRV R s.data.toList).1).1, 0)
theorem rel_wholeT (h : Rel S R) (t s : ByteArray) (xs : List Int) : (wholeT R t s (encF xs)).1 = (saveT S t s xs).1 ∧ Rel (saveT S t s xs).2 (wholeT R t s (encF xs)).2 := by
  unfold wholeT saveT
  have h1 := rel_append h t (encF xs)
  have h2 := rel_sync h1.2 t
  have h3 := rel_rename h2.2 t s
  rw [h1.1]
  by_cases e1 : (appendV S t (encF xs)).1 = 0
  · have n1 : ¬ ((appendV S t (encF xs)).1 ≠ 0) := fun h => h e1
    rw [if_neg n1, if_neg n1, h2.1]
    by_cases e2 : (oneV syncX (appendV S t (encF xs)).2 t).1 = 0
    · have n2 : ¬ ((oneV syncX (appendV S t (encF xs)).2 t).1 ≠ 0) := fun h => h e2
      rw [if_neg n2, if_neg n2]
      exact h3
    · rw [if_pos e2, if_pos e2]
      exact h2
  · rw [if_pos e1, if_pos e1]
    exact h1
theorem rel_has (h : Rel S R) (k : Key) : (MapP.at_ S.L k).isSome = spotB R.L k := by
  rw [h.at_ k]
  cases spotB R.L k <;> rfl
theorem rel_save (h : Rel S R) (s : ByteArray) (xs : List Int) : (saveR R s xs).1 = (saveV S s xs).1 ∧ Rel (saveV S s xs).2 (saveR R s xs).2 := by
  unfold saveR saveV wholeR
  by_cases e1 : s.size < 1 ∨ 60 < s.size
  · rw [if_pos e1, if_pos e1]; exact ⟨rfl, h⟩
  · rw [if_neg e1, if_neg e1]
    by_cases e2 : 1048576 < xs.length
    · rw [if_pos e2, if_pos e2]; exact ⟨rfl, h⟩
    · rw [if_neg e2, if_neg e2, rel_has h]
      by_cases e3 : spotB R.L (shK s).data.toList = true
      · rw [if_pos e3, if_pos e3]
        have h1 := rel_remove h (shK s)
        rw [h1.1]
        by_cases e4 : (oneV removeX S (shK s)).1 = 0
        · have n4 : ¬ ((oneV removeX S (shK s)).1 ≠ 0) := fun h => h e4
          rw [if_neg n4, if_neg n4]
          exact rel_wholeT h1.2 _ _ _
        · rw [if_pos e4, if_pos e4]; exact h1
      · rw [if_neg e3, if_neg e3]
        exact rel_wholeT h _ _ _
theorem rel_clear (p : Key) (stay : List ByteArray) : ∀ (ks : List Key) (S : DV) (R : RV), Rel S R → (clearR p stay R ks).1 = (clearV p stay S ks).1 ∧ Rel (clearV p stay S ks).2 (clearR p stay R ks).2
  | [], S, R, h => ⟨rfl, h⟩
  | k :: ks, S, R, h => by
    unfold clearR clearV
    by_cases e : takeB p stay k = true
    · rw [if_pos e, if_pos e]
      have h1 := rel_remove h (byK k)
      rw [h1.1]
      by_cases e4 : (oneV removeX S (byK k)).1 = 0
      · have n4 : ¬ ((oneV removeX S (byK k)).1 ≠ 0) := fun h => h e4
        rw [if_neg n4, if_neg n4]
        exact rel_clear p stay ks _ _ h1.2
      · rw [if_pos e4, if_pos e4]; exact h1
    · rw [if_neg e, if_neg e]
      exact rel_clear p stay ks _ _ h
theorem rel_load (h : Rel S R) (s : ByteArray) : loadR R s = loadV S s := by
  unfold loadR loadV
  rw [← rel_read h]
  unfold readV
  cases MapP.at_ S.L s.data.toList <;> rfl
end
end Go.Proofs.Ytdepjlnljkbfjaa.Hand

/- The document's answer to octet's check sum and to frame: the walks. -/
namespace Go.Proofs.Ytdepjlnljkbfjaa.PA
open Go.RowKit Go Go.Proofs.YtdepjlnljkbfjaaW.PrintWords Go.Proofs.YtdepjlnljkbfjaaW.PrintLast Go.Proofs.YtdepjlnljkbfjaaW.PrintMore
attribute [local go_sem] max2_int min2_int max_two min_two max_three min_three max_four min_four
set_option linter.unusedVariables false
set_option linter.unusedSimpArgs false
def haystackref1_FromFour.f (l0 : List Int) : Option (Int) := if 0 < (l0.length : Int) then (if 1 < (l0.length : Int) then (if 2 < (l0.length : Int) then (if 3 < (l0.length : Int) then (some (Go.bits .or .u32 (Go.bits .or .u32 (Go.bits .or .u32 ((rd l0 0) % 4294967296) ((((rd l0 1) % 4294967296) * 256) % 4294967296)) ((((rd l0 2) % 4294967296) * 65536) % 4294967296)) ((((rd l0 3) % 4294967296) * 16777216) % 4294967296))) else (none)) else (none)) else (none)) else (none)
set_option maxHeartbeats 8000000 in
set_option maxRecDepth 100000 in
theorem haystackref1_FromFour.calls (A0 : Option Addr) (c0 : Nat) (l0 : List Int) (r : Int) (w : World) (hr0 : Kd.C (Kd.int .u8) w A0 l0.length l0) (hc0 : l0.length ≤ c0) (h : haystackref1_FromFour.f l0 = some r) :
    Calls Try.prog 92 #[.slice A0 l0.length c0] w fun e w' => e = .returned (.int .u32 r) ∧ Drawn0 w w' := by
  have HR0 := Aside0.mk hr0
  have HC0 := Aside0.mk hc0
  clear hr0 hc0
  have H : (if 0 < (l0.length : Int) then (if 1 < (l0.length : Int) then (if 2 < (l0.length : Int) then (if 3 < (l0.length : Int) then (some (Go.bits .or .u32 (Go.bits .or .u32 (Go.bits .or .u32 ((rd l0 0) % 4294967296) ((((rd l0 1) % 4294967296) * 256) % 4294967296)) ((((rd l0 2) % 4294967296) * 65536) % 4294967296)) ((((rd l0 3) % 4294967296) * 16777216) % 4294967296))) else (none)) else (none)) else (none)) else (none)) = some r := h
  clear h
  by_cases c2 : 0 < (l0.length : Int)
  · rw [if_pos c2] at H
    have c2b0 : decide (0 < (l0.length : Int)) = true := decide_eq_true c2
    have c2b1 : decide (0 < l0.length) = true := decide_eq_true (by omega)
    clear c2
    by_cases c3 : 1 < (l0.length : Int)
    · rw [if_pos c3] at H
      have c3b0 : decide (1 < (l0.length : Int)) = true := decide_eq_true c3
      have c3b1 : decide (1 < l0.length) = true := decide_eq_true (by omega)
      clear c3
      by_cases c4 : 2 < (l0.length : Int)
      · rw [if_pos c4] at H
        have c4b0 : decide (2 < (l0.length : Int)) = true := decide_eq_true c4
        have c4b1 : decide (2 < l0.length) = true := decide_eq_true (by omega)
        clear c4
        by_cases c5 : 3 < (l0.length : Int)
        · rw [if_pos c5] at H
          have c5b0 : decide (3 < (l0.length : Int)) = true := decide_eq_true c5
          have c5b1 : decide (3 < l0.length) = true := decide_eq_true (by omega)
          clear c5
          obtain rfl := Option.some.inj H
          have p136 : 0 ≤ (0 : Int) := (by omega)
          have q136 : 0 < (l0.length : Int) := of_decide_eq_true (by first | (with_reducible assumption) | assumption)
          obtain ⟨ad136, e136, hx136_0⟩ := Kd.at_int HR0.out 0 p136 q136
          cases e136
          have qi136 : (0 < l0.length) = True := eq_true (by omega)
          (try rw [show ((0 : Int)).toNat = 0 from rfl] at hx136_0)
          (try rw [Addr.add_zero'] at hx136_0)
          replace p136 := eq_true p136
          replace q136 := eq_true q136
          have p137 : 0 ≤ (1 : Int) := (by omega)
          have q137 : 1 < (l0.length : Int) := of_decide_eq_true (by first | (with_reducible assumption) | assumption)
          obtain ⟨ad137, e137, hx137_0⟩ := Kd.at_int HR0.out 1 p137 q137
          obtain rfl : ad136 = ad137 := (by injection e137)
          (try simp only [show (1 : Int).toNat = 1 from rfl, Nat.reduceMul, Nat.reduceEqDiff, Go.Addr.add, ↓reduceIte] at hx137_0)
          have qi137 : (1 < l0.length) = True := eq_true (by omega)
          (try rw [show ((1 : Int)).toNat = 1 from rfl] at hx137_0)
          replace p137 := eq_true p137
          replace q137 := eq_true q137
          have p138 : 0 ≤ (2 : Int) := (by omega)
          have q138 : 2 < (l0.length : Int) := of_decide_eq_true (by first | (with_reducible assumption) | assumption)
          obtain ⟨ad138, e138, hx138_0⟩ := Kd.at_int HR0.out 2 p138 q138
          obtain rfl : ad136 = ad138 := (by injection e138)
          (try simp only [show (2 : Int).toNat = 2 from rfl, Nat.reduceMul, Nat.reduceEqDiff, Go.Addr.add, ↓reduceIte] at hx138_0)
          have qi138 : (2 < l0.length) = True := eq_true (by omega)
          (try rw [show ((2 : Int)).toNat = 2 from rfl] at hx138_0)
          replace p138 := eq_true p138
          replace q138 := eq_true q138
          have p139 : 0 ≤ (3 : Int) := (by omega)
          have q139 : 3 < (l0.length : Int) := of_decide_eq_true (by first | (with_reducible assumption) | assumption)
          obtain ⟨ad139, e139, hx139_0⟩ := Kd.at_int HR0.out 3 p139 q139
          obtain rfl : ad136 = ad139 := (by injection e139)
          (try simp only [show (3 : Int).toNat = 3 from rfl, Nat.reduceMul, Nat.reduceEqDiff, Go.Addr.add, ↓reduceIte] at hx139_0)
          have qi139 : (3 < l0.length) = True := eq_true (by omega)
          (try rw [show ((3 : Int)).toNat = 3 from rfl] at hx139_0)
          replace p139 := eq_true p139
          replace q139 := eq_true q139
          go_enter Try.func92, Try.ntmps92
          go_wp2
          repeat (go_quiet (fail); try go_wp2)
          go_ret
          exact ⟨by first | rfl | (simp; done) | (simp [*]; done), by repeat (first | exact Drawn0.refl _ | apply Drawn0.step)⟩
        · rw [if_neg c5] at H
          exact absurd H (by simp)
      · rw [if_neg c4] at H
        exact absurd H (by simp)
    · rw [if_neg c3] at H
      exact absurd H (by simp)
  · rw [if_neg c2] at H
    exact absurd H (by simp)
end Go.Proofs.Ytdepjlnljkbfjaa.PA
namespace Go.Proofs.Ytdepjlnljkbfjaa.Hand
open Go.RowKit Go.Proofs.Ytdepjlnljkbfjaa.PA Go.Proofs.Ytdepjlnljkbfjaa.MapP Go.Proofs.YtdepjlnljkbfjaaW.PrintWords Go.Proofs.YtdepjlnljkbfjaaW.PrintLast Go.Proofs.YtdepjlnljkbfjaaW.PrintMore
attribute [local go_sem] max2_int min2_int
set_option linter.unusedVariables false
set_option linter.unusedSimpArgs false
set_option linter.unusedSectionVars false
theorem wraps_u32 (n : Int) (h₀ : 0 ≤ n) (h₁ : n < 2 ^ 32) : IntKind.u32.wrap n = n := by rw [IntKind.wrap_u32]; omega
theorem and_one (v : Int) (h0 : 0 ≤ v) (h1 : v < 4294967296) : Go.bits .and .u32 v 1 = v % 2 := bits_mask .u32 32 (by decide) wraps_u32 1 (by decide) v h0 h1
theorem xor_none (v : Int) (h0 : 0 ≤ v) (h1 : v < 4294967296) : Go.bits .xor .u32 v 0 = v := by
  obtain ⟨a, rfl⟩ := Int.eq_ofNat_of_zero_le h0
  have ha : a < 2 ^ 32 := by omega
  have e : Go.bits .xor .u32 (a : Int) ((0 : Nat) : Int) = ((a ^^^ 0 : Nat) : Int) := by
    have ha' : a % 2 ^ IntKind.u32.bits = a := Nat.mod_eq_of_lt ha
    have hb' : 0 % 2 ^ IntKind.u32.bits = 0 := Nat.zero_mod _
    simp only [Go.bits, BitVec.ofInt_natCast, BitVec.toNat_xor, BitVec.toNat_ofNat, ha', hb']
    rw [Nat.xor_zero]
    exact wraps_u32 _ (by omega) (by omega)
  rw [Nat.xor_zero] at e
  exact e
theorem turn_one (v : Int) (h0 : 0 ≤ v) (h1 : v < 4294967296) (h : Go.bits .and .u32 v 1 = 1) : turnC v = Go.bits .xor .u32 (v / 2) 3988292384 := by
  unfold turnC
  rw [h, show Go.bits BinOp.and IntKind.u32 3988292384 (-1 % 4294967296) = 3988292384 from by decide]
theorem turn_none (v : Int) (h0 : 0 ≤ v) (h1 : v < 4294967296) (h : ¬ Go.bits .and .u32 v 1 = 1) : turnC v = v / 2 := by
  have e : Go.bits .and .u32 v 1 = 0 := by rw [and_one v h0 h1] at h ⊢; omega
  unfold turnC
  rw [e, show Go.bits BinOp.and IntKind.u32 3988292384 (-0 % 4294967296) = 0 from by decide]
  exact xor_none _ (by omega) (by omega)
set_option maxRecDepth 100000 in
set_option maxHeartbeats 2000000 in
theorem sumR_calls (A : Option Addr) (n c : Nat) (l : List Int) (w : World) (hC : Kd.C (Kd.int .u8) w A n l) (hb : Bytes l) :
    Calls Try.prog 83 #[.slice A n c] w fun e w' => e = .returned (.int .u32 (sumL l)) ∧ w' = w := by
  have hn := C_len hC
  subst hn
  have HC := Aside0.mk hC
  have hll : l.length ≤ 9223372036854775807 := hC.2.1
  clear hC
  go_enter Try.func83, Try.ntmps83
  go_wp2
  go_loopw [3, 4] (fun s3 s4 wq => ∃ (j : Nat), j ≤ l.length ∧ s4 = .int .i64 j ∧ s3 = .int .u32 (rowC (l.take j)) ∧ wq = w) (fun _ s4 _ => l.length - (intOf s4).toNat)
  case atStart => exact ⟨0, by omega, rfl, rfl, rfl⟩
  case round =>
    obtain ⟨j, hj, rfl, rfl, rfl⟩ := hrel
    by_cases hlt : j < l.length
    · obtain ⟨ad, rfl, hc⟩ := Kd.at_int HC.out (j : Int) (by omega) (by omega)
      simp only [Int.toNat_natCast] at hc
      obtain ⟨v0, hv0⟩ : ∃ v, v = rowC (l.take j) := ⟨_, rfl⟩
      obtain ⟨b, hbb⟩ : ∃ b, b = rd l (j : Int) := ⟨_, rfl⟩
      rw [← hv0]
      rw [← hbb] at hc
      have HV0 := Aside0.mk hv0
      have HBB := Aside0.mk hbb
      clear hbb hv0
      go_wp2
      obtain ⟨v1, hv1⟩ : ∃ v, v = Go.bits BinOp.xor IntKind.u32 v0 (b % 4294967296) := ⟨_, rfl⟩
      have HV1 := Aside0.mk hv1
      have hr1 : 0 ≤ v1 ∧ v1 < 4294967296 := by rw [hv1]; exact u32_range _ _ _
      rw [← hv1]
      clear hv1
      go_loopw [3, 5] (fun s3 s5 wq => ∃ (k : Nat) (v : Int), k ≤ 8 ∧ s5 = .int .i64 k ∧ s3 = .int .u32 v ∧ Aside0 (v = turnsC k v1 ∧ 0 ≤ v ∧ v < 4294967296) ∧ wq = wr) (fun _ s5 _ => 8 - (intOf s5).toNat)
      case atStart => exact ⟨0, v1, by omega, rfl, rfl, ⟨rfl, hr1⟩, rfl⟩
      case round =>
        clear hr1
        obtain ⟨k, v, hk, rfl, rfl, HV, rfl⟩ := hrel
        by_cases hlk : k < 8
        · have hvr := HV.out.2
          by_cases h1 : Go.bits .and .u32 v 1 = 1
          · have HT := Aside0.mk (turn_one v hvr.1 hvr.2 h1)
            have hbq : (Go.bits .and .u32 v 1 == 1) = true := by rw [h1]; rfl
            clear hvr
            go_wp2
            go_roundw
            case measure => simp [intOf]; omega
            case rel => exact ⟨k + 1, _, by omega, by go_num, rfl, ⟨by rw [← HT.out, HV.out.1]; rfl, u32_range _ _ _⟩, by first | rfl | trivial⟩
          · have HT := Aside0.mk (turn_none v hvr.1 hvr.2 h1)
            have hbq : (Go.bits .and .u32 v 1 == 1) = false := by simpa using h1
            have HR : Aside0 (0 ≤ v / 2 ∧ v / 2 < 4294967296) := ⟨by omega⟩
            clear hvr
            go_wp2
            go_roundw
            case measure => simp [intOf]; omega
            case rel => exact ⟨k + 1, _, by omega, by go_num, rfl, ⟨by rw [← HT.out, HV.out.1]; rfl, HR.out⟩, by first | rfl | trivial⟩
        · obtain rfl : k = 8 := by omega
          have hve : rowC (l.take (j + 1)) = v := by
            rw [List.take_succ_eq_append_getElem hlt, rowC, List.foldl_append, List.foldl_cons, List.foldl_nil, HV.out.1, HV1.out, HV0.out, HBB.out]
            simp [byteC, rd, rowC, List.getD_eq_getElem?_getD, hlt]
          have HVE := Aside0.mk hve
          clear hve
          go_wp2
          go_roundw
          case measure => simp [intOf]; omega
          case rel => exact ⟨j + 1, by omega, by go_num, by rw [HVE.out], by first | rfl | trivial⟩
    · obtain rfl : j = l.length := by omega
      rw [List.take_length]
      go_wp2
      all_goals first | exact absurd (by assumption : IntKind.u32.signed = true) (by decide) | (go_ret; exact ⟨rfl, rfl⟩)
theorem fourR_calls (v : Int) (w : World) : Calls Try.prog 82 #[.int .u32 v] w fun e w' => e = .returned (.slice (some ⟨w.heap.size, 0, none⟩) 4 4) ∧ w' = w.alloc (.cells (bts (fourF v)).toArray 5) := by
  go_enter Try.func82, Try.ntmps82
  go_wp2
  go_ret
  exact ⟨rfl, rfl⟩
theorem fromR_n (A : Option Addr) (n c : Nat) (l : List Int) (w : World) (hC : Kd.C (Kd.int .u8) w A n l) (hc : n ≤ c) (hl : 4 ≤ n) : Calls Try.prog 92 #[.slice A n c] w fun e w' => e = .returned (.int .u32 (fromV l)) ∧ ∃ m, w' = w.drewN m := by
  have hn := C_len hC
  subst hn
  have h : haystackref1_FromFour.f l = some (fromV l) := by
    unfold haystackref1_FromFour.f
    rw [if_pos (by omega), if_pos (by omega), if_pos (by omega), if_pos (by omega)]
    rfl
  refine (haystackref1_FromFour.calls A c l (fromV l) w hC hc h).mono ?_
  rintro e w' ⟨rfl, q, rfl⟩
  exact ⟨rfl, q, rfl⟩
theorem four_from (l : List Int) (hl : 4 ≤ l.length) (hb : Bytes l) : fourF (fromV l) = l.take 4 := by
  match l, hl with
  | a :: b :: c :: d :: r, _ =>
    have ha := hb a (by simp)
    have hb' := hb b (by simp)
    have hc := hb c (by simp)
    have hd := hb d (by simp)
    have e : fromV (a :: b :: c :: d :: r) = a + 256 * b + 65536 * c + 16777216 * d := by
      have r0 : rd (a :: b :: c :: d :: r) 0 = a := rfl
      have r1 : rd (a :: b :: c :: d :: r) 1 = b := rfl
      have r2 : rd (a :: b :: c :: d :: r) 2 = c := rfl
      have r3 : rd (a :: b :: c :: d :: r) 3 = d := rfl
      unfold fromV
      rw [r0, r1, r2, r3]
      rw [or_add 8 (b % 4294967296 * 256 % 4294967296) (a % 4294967296) (by omega) (by omega) (by omega) (by omega) (by omega) (by omega)]
      rw [or_add 16 (c % 4294967296 * 65536 % 4294967296) _ (by omega) (by omega) (by omega) (by omega) (by omega) (by omega)]
      rw [or_add 24 (d % 4294967296 * 16777216 % 4294967296) _ (by omega) (by omega) (by omega) (by omega) (by omega) (by omega)]
      omega
    rw [e]
    unfold fourF
    simp only [List.take_succ_cons, List.take_zero, List.cons.injEq, and_true]
    exact ⟨by omega, by omega, by omega, by omega⟩
/-- The reference's Decode. -/
def decR (b : List Int) : List Int × Int × Int :=
  if b.length < 8 then ([], 0, 2)
  else if fromV (b.drop 4) ≠ sumL (b.take 4) then ([], 0, 4)
  else if 1048576 < fromV b then ([], 0, 5)
  else if (b.length : Int) < 12 + fromV b then ([], 0, 2)
  else if fromV (b.drop (8 + (fromV b).toNat)) ≠ sumL (b.take (8 + (fromV b).toNat)) then ([], 0, 4)
  else ((b.take (8 + (fromV b).toNat)).drop 8, 12 + fromV b, 0)
theorem decR_is (b : List Int) (hb : Bytes b) : decR b = decV b := by
  unfold decR decV
  by_cases h8 : b.length < 8
  · rw [if_pos h8, if_pos h8]
  · rw [if_neg h8, if_neg h8]
    have h4 := four_from b (by omega) hb
    have h5 := four_from (b.drop 4) (by simp; omega) (bytes_drop hb 4)
    have h6 : b.take 8 = b.take 4 ++ (b.drop 4).take 4 := by
      rw [show (8 : Nat) = 4 + 4 from rfl, List.take_add]
    have hiff : b.take 8 = headF (fromV b) ↔ fromV (b.drop 4) = sumL (b.take 4) := by
      rw [h6]
      unfold headF
      rw [h4]
      constructor
      · intro h
        have h7 := List.append_cancel_left h
        have h8 : b.drop 4 = fourF (sumL (b.take 4)) ++ (b.drop 4).drop 4 := by
          conv => lhs; rw [← List.take_append_drop 4 (b.drop 4), h7]
        rw [h8]
        exact from_four _ (sumL_range _).1 (sumL_range _).2 _
      · intro h
        rw [← h5, h]
    by_cases hs : fromV (b.drop 4) = sumL (b.take 4)
    · rw [if_neg (show ¬ (fromV (b.drop 4) ≠ sumL (b.take 4)) from fun e => e hs), if_neg (show ¬ (b.take 8 ≠ headF (fromV b)) from fun e => e (hiff.2 hs))]
      by_cases hg : 1048576 < fromV b
      · rw [if_pos hg, if_pos hg]
      · rw [if_neg hg, if_neg hg]
        by_cases hl : (b.length : Int) < 12 + fromV b
        · rw [if_pos hl, if_pos (by omega)]
        · rw [if_neg hl, if_neg (show ¬ ((b.length : Int) - 12 < fromV b) from by omega), Int.add_comm 12]
    · rw [if_pos hs, if_pos (fun e => hs (hiff.1 e))]
end Go.Proofs.Ytdepjlnljkbfjaa.Hand

/- The document's answer to frame: Encode, Decode, One: the walks. -/
namespace Go.Proofs.Ytdepjlnljkbfjaa.Hand
open Go.RowKit Go.Proofs.Ytdepjlnljkbfjaa.PA Go.Proofs.Ytdepjlnljkbfjaa.MapP Go.Proofs.YtdepjlnljkbfjaaW.PrintWords Go.Proofs.YtdepjlnljkbfjaaW.PrintLast Go.Proofs.YtdepjlnljkbfjaaW.PrintMore
attribute [local go_sem] max2_int min2_int
set_option linter.unusedVariables false
set_option linter.unusedSimpArgs false
set_option linter.unusedSectionVars false
/-- A row of bytes that was made since w. -/
structure Mine (w W : World) (v : Value) (xs : List Int) : Prop where
  dat : Dat W v xs
  new : ∀ k, v.ownBlock = some k → w.heap.size ≤ k
  below : Below w.heap.size w W
section
variable {w W W' : World} {v : Value} {xs : List Int}
theorem Mine.quiet (h : Mine w W v xs) (hb : Below W.heap.size W W') : Mine w W' v xs := ⟨h.dat.step (fun g hg => hb.block g (h.dat.lt hg)), h.new, h.below.trans (hb.mono h.below.size)⟩
theorem Mine.alloc (h : Mine w W v xs) (o : Obj) : Mine w (W.alloc o) v xs := h.quiet ((Below.refl _ _).alloc (Nat.le_refl _) o)
theorem Mine.lit (hB : Below w.heap.size w W) (hl : xs.length ≤ maxLen) : Mine w (W.alloc (.cells (bts xs).toArray 5)) (.slice (some ⟨W.heap.size, 0, none⟩) xs.length xs.length) xs :=
  ⟨⟨_, xs.length, rfl, Nat.le_refl _, hl, .inr ⟨W.heap.size, _, rfl, heap_alloc_new W _, by simp, .inr rfl, List.take_of_length_le (by simp)⟩⟩, fun k hk => by have := own_new hk; have := hB.size; omega, hB.alloc hB.size _⟩
theorem Mine.empty (hB : Below w.heap.size w W) : Mine w (W.alloc (.cells #[] 5)) (.slice (some ⟨W.heap.size, 0, none⟩) 0 0) [] := Mine.lit (xs := []) hB (Nat.zero_le _)
theorem Mine.append (h : Mine w W v xs) (A : Option Addr) (m c : Nat) (news : List Int) (hr : Kd.C (Kd.int .u8) W A m news) (hbig : xs.length + m ≤ 140737488355328) :
    ∃ v' W', (Builtin.append_ #[23, 23] 23 #[v, .slice A m c]).run Try.prog W = .ok v' W' ∧ Mine w W' v' (xs ++ news) := by
  have hm := C_len hr
  subst hm
  obtain ⟨v', W', h1, h2, h3, h4⟩ := h.dat.append 23 A news.length c news hr rfl hbig
  exact ⟨v', W', h1, h2, fun k hk => h4.elim (fun e => h.new k (e ▸ hk)) (fun e => Nat.le_trans h.below.size (e k hk)), h.below.grown h3 h.below.size (fun k hk => h.new k hk)⟩
theorem Mine.fresh {A : Option Addr} {n c : Nat} (h : Mine w W (.slice A n c) xs) : Fresh w W A xs := fun W' hW => (h.dat.step (fun g hg => hW g (h.new g hg) (h.dat.lt hg))).C rfl
theorem Mine.C {A : Option Addr} {n c : Nat} (h : Mine w W (.slice A n c) xs) : Kd.C (Kd.int .u8) W A xs.length xs := h.dat.C rfl
end
theorem C_lit (w : World) (xs : List Int) (hl : xs.length ≤ 9223372036854775807) : Kd.C (Kd.int .u8) (w.alloc (.cells (bts xs).toArray 5)) (some ⟨w.heap.size, 0, none⟩) xs.length xs := bytes_new w xs hl (0, 0)
set_option maxRecDepth 100000 in
set_option maxHeartbeats 4000000 in
theorem encR_calls (A : Option Addr) (c : Nat) (l : List Int) (w : World) (hC : Kd.C (Kd.int .u8) w A l.length l) (hc : l.length ≤ c) (hb : Bytes l) :
    Calls Try.prog 62 #[.slice A l.length c] w fun e w' => ∃ A' c', e = .returned (.tuple #[.slice A' (encV l).1.length c', .int .i64 (encV l).2]) ∧ (encV l).1.length ≤ c' ∧ Fresh w w' A' (encV l).1 ∧ Below w.heap.size w w' := by
  have HC := Aside0.mk hC
  have HBY := Aside0.mk hb
  have hll := hC.2.1
  clear hC hb
  by_cases hbig : 1048576 < l.length
  · have e : encV l = ([], 5) := by unfold encV; rw [if_pos hbig]
    have HE := Aside0.mk e
    clear e
    go_enter Try.func62, Try.ntmps62
    go_wp2
    go_ret2
    rw [HE.out]
    exact ⟨none, 0, rfl, by simp, Fresh.nil _ _ _, Below.refl _ _⟩
  · have e : encV l = (encF l, 0) := by unfold encV; rw [if_neg hbig]
    have HE := Aside0.mk e
    have hsmall : l.length ≤ 1048576 := by omega
    clear e
    go_enter Try.func62, Try.ntmps62
    go_wp2_with fail
    refine (fourR_calls l.length _).mono ?_
    rintro e w1 ⟨rfl, rfl⟩
    have M1 : Aside0 (Mine w (w.alloc (.cells (bts (fourF l.length)).toArray 5)) (.slice (some ⟨w.heap.size, 0, none⟩) 4 4) (fourF l.length)) := ⟨Mine.lit (xs := fourF l.length) (Below.refl _ _) (by unfold maxLen; simp [fourF])⟩
    obtain ⟨w1, hw1⟩ : ∃ w1, w1 = w.alloc (.cells (bts (fourF l.length)).toArray 5) := ⟨_, rfl⟩
    obtain ⟨g1, hg1⟩ : ∃ g1, g1 = w.heap.size := ⟨_, rfl⟩
    rw [← hw1, ← hg1] at M1
    rw [← hw1, ← hg1]
    obtain ⟨s1, hs1⟩ : ∃ s1, s1 = sumL (fourF l.length) := ⟨_, rfl⟩
    have K1 := Aside0.mk (sumR_calls (some ⟨g1, 0, none⟩) 4 4 (fourF l.length) w1 M1.out.C (fourF_bytes _))
    rw [← hs1] at K1
    obtain ⟨v4, W4, hr4, hm4⟩ := (M1.out.alloc (.cells (bts (fourF s1)).toArray 5)).append (some ⟨w1.heap.size, 0, none⟩) 4 4 (fourF s1) (C_lit w1 (fourF s1) (by simp [fourF])) (by simp [fourF])
    obtain ⟨A4, c4, hv4, hc4⟩ := hm4.dat.slice
    subst hv4
    have hy4 : fourF l.length ++ fourF s1 = headF l.length := by rw [hs1]; rfl
    rw [hy4] at hr4 hm4 hc4
    rw [headF_len] at hr4 hm4 hc4
    obtain ⟨v5, W5, hr5, hm5⟩ := hm4.append A l.length c l (Kd.C_below HC.out hm4.below) (by rw [headF_len]; omega)
    obtain ⟨A5, c5, hv5, hc5⟩ := hm5.dat.slice
    subst hv5
    obtain ⟨y5, hy5⟩ : ∃ y5, y5 = headF l.length ++ l := ⟨_, rfl⟩
    have hb5 : Bytes y5 := by rw [hy5]; exact bytes_app (headF_bytes _) HBY.out
    have hl5 : y5.length ≤ 1048600 := by rw [hy5, List.length_append, headF_len]; omega
    rw [← hy5] at hr5 hm5 hc5
    obtain ⟨s5, hs5⟩ : ∃ s5, s5 = sumL y5 := ⟨_, rfl⟩
    have K5 := Aside0.mk (sumR_calls A5 y5.length c5 y5 W5 hm5.C hb5)
    rw [← hs5] at K5
    obtain ⟨v6, W6, hr6, hm6⟩ := (hm5.alloc (.cells (bts (fourF s5)).toArray 5)).append (some ⟨W5.heap.size, 0, none⟩) 4 4 (fourF s5) (C_lit W5 (fourF s5) (by simp [fourF])) (by simp [fourF]; omega)
    obtain ⟨A6, c6, hv6, hc6⟩ := hm6.dat.slice
    subst hv6
    have hy6 : y5 ++ fourF s5 = encF l := by rw [hs5, hy5]; rfl
    rw [hy6] at hr6 hm6 hc6
    have M6 := Aside0.mk hm6
    have HC6 := Aside0.mk hc6
    obtain ⟨z, hz⟩ : ∃ z, z = encF l := ⟨_, rfl⟩
    rw [← hz] at HE M6 HC6 hr6
    obtain ⟨n5, hn5⟩ : ∃ n5, n5 = y5.length := ⟨_, rfl⟩
    rw [← hn5] at hr5 hr6 K5 hc5 hl5
    have HN5 := Aside0.mk hn5
    clear hm4 hm5 hm6 hw1 hg1 hs1 hs5 hb5 hy4 hy5 hy6 hz hc6 hn5 M1
    go_wp2_with fail
    refine (K1.out).mono ?_
    rintro e w2 ⟨rfl, rfl⟩
    go_wp2_with fail
    refine (fourR_calls s1 _).mono ?_
    rintro e w3 ⟨rfl, rfl⟩
    go_wp2_with (first | ((with_reducible refine gate_builtin (b := .append) (xs := #[.tmp 12, .tmp 15]) rfl ?_); at_builtin; refine wpList_append_run rfl (.tmp 12) (.tmp 15) 23 rfl (.slice (some ⟨g1, 0, none⟩) 4 4) (.slice (some ⟨w2.heap.size, 0, none⟩) 4 4) _ _ rfl rfl hr4 ?_) | ((with_reducible refine gate_builtin (b := .append) (xs := #[.tmp 17, .tmp 18]) rfl ?_); at_builtin; refine wpList_append_run rfl (.tmp 17) (.tmp 18) 23 rfl (.slice A4 8 c4) (.slice A l.length c) _ _ rfl rfl hr5 ?_))
    refine (K5.out).mono ?_
    rintro e w5 ⟨rfl, rfl⟩
    go_wp2_with fail
    refine (fourR_calls s5 _).mono ?_
    rintro e w6 ⟨rfl, rfl⟩
    go_wp2_with ((with_reducible refine gate_builtin (b := .append) (xs := #[.tmp 20, .tmp 23]) rfl ?_); at_builtin; refine wpList_append_run rfl (.tmp 20) (.tmp 23) 23 rfl (.slice A5 n5 c5) (.slice (some ⟨w5.heap.size, 0, none⟩) 4 4) _ _ rfl rfl hr6 ?_)
    go_ret2
    rw [HE.out]
    exact ⟨A6, c6, rfl, HC6.out, M6.out.fresh, M6.out.below⟩
set_option maxRecDepth 100000 in
set_option maxHeartbeats 4000000 in
theorem decR_calls (A : Option Addr) (c : Nat) (l : List Int) (w : World) (hC : Kd.C (Kd.int .u8) w A l.length l) (hc : l.length ≤ c) (hb : Bytes l) (hl : l.length ≤ 140737488355328) :
    Calls Try.prog 85 #[.slice A l.length c] w fun e w' => ∃ A' c', e = .returned (.tuple #[.slice A' (decR l).1.length c', .int .i64 (decR l).2.1, .int .i64 (decR l).2.2]) ∧ (decR l).1.length ≤ c' ∧ Kd.C (Kd.int .u8) w' A' (decR l).1.length (decR l).1 ∧ Below w.heap.size w w' := by
  have HC := Aside0.mk hC
  have HBY := Aside0.mk hb
  have hnil : ∀ W, Kd.C (Kd.int .u8) W none ([] : List Int).length [] := fun W => ⟨rfl, by simp, fun h => absurd h (by simp)⟩
  have HNIL := Aside0.mk hnil
  clear hC hb hnil
  by_cases h8 : l.length < 8
  · have e : decR l = ([], 0, 2) := by unfold decR; rw [if_pos h8]
    have HE := Aside0.mk e
    clear e
    go_enter Try.func85, Try.ntmps85
    go_wp2
    exact bodyPost_ret (v := .tuple #[.slice none 0 0, .int .i64 0, .int .i64 2]) (by simp [results, Try.results85, go_sem]) rfl (by rw [HE.out]; exact ⟨none, 0, rfl, Nat.le_refl _, HNIL.out _, Below.refl _ _⟩)
  · have hg8 : 8 ≤ l.length := by omega
    obtain ⟨ad, rfl, _⟩ := HC.out.2.2 (by omega)
    obtain ⟨g, o, rfl⟩ := plain_at HC.out (by omega)
    have h8c : (8 : Int) ≤ c := by omega
    obtain ⟨f1, hf1⟩ : ∃ f, f = fromV (l.drop 4) := ⟨_, rfl⟩
    obtain ⟨s1, hs1⟩ : ∃ s, s = sumL (l.take 4) := ⟨_, rfl⟩
    have K1 : Aside0 (∀ m, Calls Try.prog 92 #[.slice (some ⟨g, o + 4, none⟩) (l.length - 4) (c - 4)] (w.drewN m) fun e w' => e = .returned (.int .u32 f1) ∧ ∃ q, w' = (w.drewN m).drewN q) :=
      ⟨fun m => by rw [hf1]; exact fromR_n (some ⟨g, o + 4, none⟩) (l.length - 4) (c - 4) (l.drop 4) _ (Kd.C_below (C_drop' HC.out (by omega)) (bdrewN (Below.refl _ _) m)) (by omega) (by omega)⟩
    have K2 : Aside0 (∀ m, Calls Try.prog 83 #[.slice (some ⟨g, o, none⟩) 4 c] (w.drewN m) fun e w' => e = .returned (.int .u32 s1) ∧ w' = w.drewN m) :=
      ⟨fun m => by rw [hs1]; exact sumR_calls (some ⟨g, o, none⟩) 4 c (l.take 4) _ (Kd.C_below (C_take' HC.out (by omega)) (bdrewN (Below.refl _ _) m)) (bytes_take HBY.out _)⟩
    have HF1 := Aside0.mk hf1
    have HS1 := Aside0.mk hs1
    clear hf1 hs1
    go_enter Try.func85, Try.ntmps85
    go_wp2
    go_quiet (first | (go_at_call 92; refine Calls.quiet_of (K1.out _)) | (go_at_call 83; refine Calls.quiet_of_same (K2.out _)))
    have HB1 : Aside0 (Below w.heap.size w (w.drewN nq)) := ⟨bdrewN (Below.refl _ _) _⟩
    generalize w.drewN nq = w1 at HB1 ⊢
    clear K1 K2
    by_cases h1 : f1 = s1
    case neg =>
      have e : decR l = ([], 0, 4) := by unfold decR; rw [if_neg h8, if_pos (by rw [← HF1.out, ← HS1.out]; exact h1)]
      have HE := Aside0.mk e
      have hnb : (f1 != s1) = true := by simpa using h1
      clear e
      go_wp2
      exact bodyPost_ret (v := .tuple #[.slice none 0 0, .int .i64 0, .int .i64 4]) (by simp [results, Try.results85, go_sem]) rfl (by rw [HE.out]; exact ⟨none, 0, rfl, Nat.le_refl _, HNIL.out _, HB1.out⟩)
    case pos =>
      have hnb : (f1 != s1) = false := by rw [h1]; simp
      have HQ1 : Aside0 (fromV (l.drop 4) = sumL (l.take 4)) := ⟨by rw [← HF1.out, ← HS1.out, h1]⟩
      have hfr := fromV_range l
      obtain ⟨k, hk⟩ : ∃ k : Nat, fromV l = k := ⟨(fromV l).toNat, by omega⟩
      have K3 := Aside0.mk (fromR_n (some ⟨g, o, none⟩) l.length c l w1 (Kd.C_below HC.out HB1.out) hc (by omega))
      rw [hk] at hfr K3
      have hkr : k < 4294967296 := by omega
      have HK := Aside0.mk hk
      clear hk hfr h1
      go_wp2_with fail
      refine (K3.out).mono ?_
      rintro e w2 ⟨rfl, q2, rfl⟩
      have HB2 : Aside0 (Below w.heap.size w (w1.drewN q2)) := ⟨bdrewN HB1.out _⟩
      generalize w1.drewN q2 = w2 at HB2 ⊢
      by_cases hbig : 1048576 < k
      · have e : decR l = ([], 0, 5) := by unfold decR; rw [if_neg h8, HK.out, if_neg (by rw [HQ1.out]; simp), if_pos (by omega)]
        have HE := Aside0.mk e
        clear e
        go_wp2
        exact bodyPost_ret (v := .tuple #[.slice none 0 0, .int .i64 0, .int .i64 5]) (by simp [results, Try.results85, go_sem]) rfl (by rw [HE.out]; exact ⟨none, 0, rfl, Nat.le_refl _, HNIL.out _, HB2.out⟩)
      · by_cases hsh : (l.length : Int) < 12 + k
        · have e : decR l = ([], 0, 2) := by unfold decR; rw [if_neg h8, HK.out, if_neg (by rw [HQ1.out]; simp), if_neg (by omega), if_pos (by omega)]
          have HE := Aside0.mk e
          clear e
          go_wp2
          exact bodyPost_ret (v := .tuple #[.slice none 0 0, .int .i64 0, .int .i64 2]) (by simp [results, Try.results85, go_sem]) rfl (by rw [HE.out]; exact ⟨none, 0, rfl, Nat.le_refl _, HNIL.out _, HB2.out⟩)
        · have hge : k + 12 ≤ l.length := by omega
          have hdv : decR l = if fromV (l.drop (8 + k)) ≠ sumL (l.take (8 + k)) then ([], 0, 4) else ((l.take (8 + k)).drop 8, 12 + (k : Int), 0) := by
            unfold decR
            rw [if_neg h8, HK.out, if_neg (by rw [HQ1.out]; simp), if_neg (by omega), if_neg (by omega)]
            rfl
          obtain ⟨f2, hf2⟩ : ∃ f, f = fromV (l.drop (8 + k)) := ⟨_, rfl⟩
          obtain ⟨s2, hs2⟩ : ∃ s, s = sumL (l.take (8 + k)) := ⟨_, rfl⟩
          have K4 : Aside0 (∀ m, Calls Try.prog 92 #[.slice (some ⟨g, o + (8 + k), none⟩) (l.length - (8 + k)) (c - (8 + k))] (w2.drewN m) fun e w' => e = .returned (.int .u32 f2) ∧ ∃ q, w' = (w2.drewN m).drewN q) :=
            ⟨fun m => by rw [hf2]; exact fromR_n (some ⟨g, o + (8 + k), none⟩) (l.length - (8 + k)) (c - (8 + k)) (l.drop (8 + k)) _ (Kd.C_below (C_drop' HC.out (by omega)) (bdrewN HB2.out m)) (by omega) (by omega)⟩
          have K5 : Aside0 (∀ m, Calls Try.prog 83 #[.slice (some ⟨g, o, none⟩) (8 + k) c] (w2.drewN m) fun e w' => e = .returned (.int .u32 s2) ∧ w' = w2.drewN m) :=
            ⟨fun m => by rw [hs2]; exact sumR_calls (some ⟨g, o, none⟩) (8 + k) c (l.take (8 + k)) _ (Kd.C_below (C_take' HC.out (by omega)) (bdrewN HB2.out m)) (bytes_take HBY.out _)⟩
          rw [← hf2, ← hs2] at hdv
          have HDV := Aside0.mk hdv
          clear hdv hf2 hs2
          go_wp2
          go_quiet (first | (go_at_call 92; refine Calls.quiet_of (K4.out _)) | (go_at_call 83; refine Calls.quiet_of_same (K5.out _)))
          have HB3 : Aside0 (Below w.heap.size w (w2.drewN nq)) := ⟨bdrewN HB2.out _⟩
          generalize w2.drewN nq = w3 at HB3 ⊢
          clear K4 K5
          by_cases h2 : f2 = s2
          case neg =>
            have HE : Aside0 (decR l = ([], 0, 4)) := ⟨by rw [HDV.out, if_pos h2]⟩
            have hnb : (f2 != s2) = true := by simpa using h2
            go_wp2
            exact bodyPost_ret (v := .tuple #[.slice none 0 0, .int .i64 0, .int .i64 4]) (by simp [results, Try.results85, go_sem]) rfl (by rw [HE.out]; exact ⟨none, 0, rfl, Nat.le_refl _, HNIL.out _, HB3.out⟩)
          case pos =>
            have hE : decR l = ((l.take (8 + k)).drop 8, 12 + (k : Int), 0) := by rw [HDV.out, if_neg (by rw [h2]; simp)]
            have hnb : (f2 != s2) = false := by rw [h2]; simp
            obtain ⟨p, hp⟩ : ∃ p, p = (l.take (8 + k)).drop 8 := ⟨_, rfl⟩
            have hpl : p.length = k := by rw [hp, List.length_drop, List.length_take]; omega
            have hCp : Kd.C (Kd.int .u8) (w3.alloc (.cells #[] 5)) (some ⟨g, o + 8, none⟩) k p := by
              have h3 := C_take' (Kd.C_alloc (Kd.C_below HC.out HB3.out) (.cells #[] 5)) (m := 8 + k) (by omega)
              have h4 : Kd.C (Kd.int .u8) (w3.alloc (.cells #[] 5)) (some ⟨g, o, none⟩) (l.take (8 + k)).length (l.take (8 + k)) := by rw [C_len h3]; exact h3
              have h5 := C_drop' h4 (m := 8) (by rw [C_len h3]; omega)
              rw [C_len h3, show 8 + k - 8 = k from by omega] at h5
              rw [hp]; exact h5
            obtain ⟨v5, W5, hr5, hm5⟩ := (Mine.empty HB3.out).append (some ⟨g, o + 8, none⟩) k (c - 8) p hCp (by simp; omega)
            rw [show (Value.slice (some ⟨g, o + 8, none⟩) k (c - 8)) = .slice (some ⟨g, o + 8, none⟩) (8 + k - 8) (c - 8) from by rw [show 8 + k - 8 = k from by omega]] at hr5
            obtain ⟨A5, c5, hv5, hc5⟩ := hm5.dat.slice
            subst hv5
            rw [List.nil_append] at hr5 hm5 hc5
            rw [← hp] at hE
            have HE := Aside0.mk hE
            have HM5 := Aside0.mk hm5
            have HC5 := Aside0.mk hc5
            clear hE hm5 hc5 hCp hp hpl h2 HDV
            go_wp2_with (first | ((with_reducible refine gate_op (op := .buildSlice 23 0 #[]) rfl ?_); refine wpList_value_run (v := .slice (some ⟨w3.heap.size, 0, none⟩) 0 0) (w1 := w3.alloc (.cells #[] 5)) rfl (by go_simp) ?_) | ((with_reducible refine gate_builtin (b := .append) (xs := #[.tmp 37, .tmp 41]) rfl ?_); at_builtin; refine wpList_append_run rfl (.tmp 37) (.tmp 41) 23 rfl (.slice (some ⟨w3.heap.size, 0, none⟩) 0 0) (.slice (some ⟨g, o + 8, none⟩) (8 + k - 8) (c - 8)) _ _ rfl rfl hr5 ?_))
            exact bodyPost_ret (v := .tuple #[.slice A5 p.length c5, .int .i64 (12 + (k : Int)), .int .i64 0]) (by simp [results, Try.results85, go_sem]) rfl (by rw [HE.out]; exact ⟨A5, c5, rfl, HC5.out, HM5.out.C, HM5.out.below⟩)
/-- What the reference's One hands back: nothing where it errs. -/
def oneT (l : List Int) : List Int := if (oneF l).2 = 0 then (oneF l).1 else []
set_option maxRecDepth 100000 in
set_option maxHeartbeats 2000000 in
theorem oneR_calls (A : Option Addr) (c : Nat) (l : List Int) (w : World) (hC : Kd.C (Kd.int .u8) w A l.length l) (hc : l.length ≤ c) (hb : Bytes l) (hl : l.length ≤ 140737488355328) :
    Calls Try.prog 64 #[.slice A l.length c] w fun e w' => ∃ A' c', e = .returned (.tuple #[.slice A' (oneT l).length c', .int .i64 (oneF l).2]) ∧ (oneT l).length ≤ c' ∧ Kd.C (Kd.int .u8) w' A' (oneT l).length (oneT l) ∧ Below w.heap.size w w' := by
  have K := Aside0.mk (decR_calls A c l w hC hc hb hl)
  rw [decR_is l hb] at K
  obtain ⟨p, hp⟩ : ∃ p, p = (decV l).1 := ⟨_, rfl⟩
  obtain ⟨n, hn⟩ : ∃ n, n = (decV l).2.1 := ⟨_, rfl⟩
  obtain ⟨e, he⟩ : ∃ e, e = (decV l).2.2 := ⟨_, rfl⟩
  have ho : oneF l = if e = 0 ∧ n ≠ l.length then ([], 3) else (p, e) := by unfold oneF; rw [← hp, ← hn, ← he]
  rw [← hp, ← hn, ← he] at K
  have HO := Aside0.mk ho
  clear hp hn he ho hC hb
  go_enter Try.func64, Try.ntmps64
  go_wp2_with fail
  refine K.out.mono ?_
  rintro e w1 ⟨A1, c1, rfl, hc1, hC1, hb1⟩
  have HC1 := Aside0.mk hC1
  have HB1 := Aside0.mk hb1
  clear hC1 hb1
  by_cases h0 : e = 0
  · subst h0
    by_cases hne : n = (l.length : Int)
    · have HE : Aside0 ((oneF l).2 = 0 ∧ oneT l = p) := ⟨by unfold oneT; rw [HO.out, if_neg (by rw [hne]; simp)]; exact ⟨rfl, rfl⟩⟩
      have hnb : (n != (l.length : Int)) = false := by rw [hne]; simp
      clear hne
      go_wp2
      go_ret2
      rw [HE.out.1, HE.out.2]
      exact ⟨A1, c1, rfl, hc1, HC1.out, HB1.out⟩
    · have HE : Aside0 ((oneF l).2 = 3 ∧ oneT l = []) := ⟨by unfold oneT; rw [HO.out, if_pos ⟨rfl, hne⟩]; exact ⟨rfl, rfl⟩⟩
      have hnb : (n != (l.length : Int)) = true := by simpa using hne
      clear hne
      go_wp2
      go_ret2
      rw [HE.out.1, HE.out.2]
      exact ⟨none, 0, rfl, by simp, ⟨rfl, by simp, fun h => absurd h (by simp)⟩, HB1.out⟩
  · have HE : Aside0 ((oneF l).2 = e ∧ oneT l = []) := ⟨by unfold oneT; rw [HO.out, if_neg (fun h => h0 h.1)]; exact ⟨rfl, if_neg h0⟩⟩
    have hnb : (e == 0) = false := by simpa using h0
    have hnc : (e != 0) = true := by simpa using h0
    have HN := Aside0.mk h0
    clear h0
    go_wp2
    go_ret2
    rw [HE.out.1, HE.out.2]
    exact ⟨none, 0, rfl, by simp, ⟨rfl, by simp, fun h => absurd h (by simp)⟩, HB1.out⟩
end Go.Proofs.Ytdepjlnljkbfjaa.Hand

/- The document's answer to keep: Save and Load on the reference's disk. -/
namespace Go.Proofs.Ytdepjlnljkbfjaa.Hand
open Go.RowKit Go.Proofs.Ytdepjlnljkbfjaa.PA Go.Proofs.Ytdepjlnljkbfjaa.MapP Go.Proofs.YtdepjlnljkbfjaaW.PrintWords Go.Proofs.YtdepjlnljkbfjaaW.PrintLast Go.Proofs.YtdepjlnljkbfjaaW.PrintMore
attribute [local go_sem] max2_int min2_int
set_option linter.unusedVariables false
set_option linter.unusedSimpArgs false
set_option linter.unusedSectionVars false
section
variable {w w0 w1 w2 W : World} {r : Nat} {ok : Nat → Prop} {R R1 R2 : RV}
/-- What a call has made of the reference's disk, as its caller sees it. -/
structure WentR (w w1 w0 : World) (ok : Nat → Prop) (r : Nat) (R1 : RV) : Prop where
  up : RefUp w1 w0 (fun k => ok k ∨ w.heap.size ≤ k) r R1
  kept : Kept w w1 ok
theorem WentR.refl (h : RefUp w w0 ok r R) : WentR w w w0 ok r R := ⟨h.mono (fun _ h => .inl h), Kept.refl _ _⟩
theorem WentR.step (g : WentR w w1 w0 ok r R1) (hd : RefUp w2 w0 (fun k => (ok k ∨ w.heap.size ≤ k) ∨ w1.heap.size ≤ k) r R2) (hk : Kept w1 w2 (fun k => ok k ∨ w.heap.size ≤ k)) : WentR w w2 w0 ok r R2 :=
  ⟨hd.mono (fun k h => h.elim id (fun h => .inr (Nat.le_trans g.kept.1 h))), g.kept.then_ hk (fun _ h => h)⟩
theorem WentR.quiet (g : WentR w w1 w0 ok r R1) (hb : Below w1.heap.size w1 w2) : WentR w w2 w0 ok r R1 := ⟨g.up.quiet hb, g.kept.below hb⟩
theorem read_ref (h : RefUp w w0 ok r R) (s : ByteArray) :
    Calls Try.prog 35 #[.pointer (some ⟨r, 0, none⟩), .string s] w fun e w' => ∃ A c, e = .returned (.tuple #[.slice A (readRV R s.data.toList).1.length c, .int .i64 (readRV R s.data.toList).2]) ∧ (readRV R s.data.toList).1.length ≤ c ∧ Kd.C (Kd.int .u8) w' A (readRV R s.data.toList).1.length (readRV R s.data.toList).1 ∧ Below w.heap.size w w' := by
  obtain ⟨⟨vL, es, hi, _⟩, _, hf⟩ := h
  exact (readR_calls hi (by rw [← hi.len]; exact hf.many) (by have := hf.used; have := hf.r1; omega) s).mono (fun e w' ⟨A, c, he, hc, hD, _, hB⟩ => ⟨A, c, he, hc, hD.C rfl, hB⟩)
theorem has_up (h : RefUp w w0 ok r R) (s : ByteArray) :
    Calls Try.prog 84 #[.pointer (some ⟨r, 0, none⟩), .string s] w fun e w' => e = .returned (.bool (spotB R.L s.data.toList)) ∧ Below w.heap.size w w' := by
  have K := Aside0.mk (read_ref h s)
  have HE : Aside0 (spotB R.L s.data.toList = ((readRV R s.data.toList).2 == 0)) := ⟨by unfold readRV; cases spotB R.L s.data.toList <;> rfl⟩
  generalize readRV R s.data.toList = q at K HE
  obtain ⟨p, e⟩ := q
  clear h
  go_enter Try.func84, Try.ntmps84
  go_wp2_with fail
  refine K.out.mono ?_
  rintro e w1 ⟨A, c, rfl, _, _, hb⟩
  go_wp2
  go_ret
  rw [HE.out]
  exact ⟨rfl, hb⟩
set_option maxRecDepth 100000 in
set_option maxHeartbeats 4000000 in
theorem whole_up (h : RefUp w w0 ok r R) (s : ByteArray) (hs60 : s.size ≤ 60) (A : Option Addr) (c : Nat) (xs : List Int) (hxs : ∀ W', Kept w W' ok → Kd.C (Kd.int .u8) W' A xs.length xs) (hc : xs.length ≤ c) (hxl : xs.length ≤ 140737488351232) :
    Calls Try.prog 63 #[.pointer (some ⟨r, 0, none⟩), .string s, .slice A xs.length c] w fun e w' => e = .returned (.int .i64 (wholeR R s xs).1) ∧ WentR w w' w0 ok r (wholeR R s xs).2 := by
  obtain ⟨res, hres⟩ : ∃ res, wholeR R s xs = res := ⟨_, rfl⟩
  rw [hres]
  have HD := Aside0.mk h
  obtain ⟨t, htt⟩ : ∃ t, s ++ (⟨#[126]⟩ : ByteArray) = t := ⟨_, rfl⟩
  have HSH : Aside0 (shK s = t) := ⟨htt⟩
  have hts : t.size ≤ maxLen := by
    have := shK_size s
    rw [HSH.out] at this
    unfold maxLen
    omega
  have hsz : s.size ≤ maxLen := by unfold maxLen; omega
  have HR : Aside0 ((if spotB R.L t.data.toList = true then (if (removeR R t).1 ≠ 0 then removeR R t else wholeT (removeR R t).2 t s xs) else wholeT R t s xs) = res) := ⟨by
    rw [← hres]
    unfold wholeR
    rw [HSH.out]⟩
  have HT : Aside0 (∀ R1, wholeT R1 t s xs = if (appendR R1 t xs).1 ≠ 0 then appendR R1 t xs else if (syncR (appendR R1 t xs).2 t).1 ≠ 0 then syncR (appendR R1 t xs).2 t else renR (syncR (appendR R1 t xs).2 t).2 t s) := ⟨fun R1 => rfl⟩
  have HXS := Aside0.mk hxs
  have K1 := Aside0.mk (has_up h t)
  clear hres h hxs
  go_enter Try.func63, Try.ntmps63
  go_wp2_with fail
  refine K1.out.mono ?_
  rintro e w1 ⟨rfl, hb1⟩
  have G1 := Aside0.mk ((WentR.refl HD.out).quiet hb1)
  clear hb1 K1
  obtain ⟨q, hq⟩ : ∃ q, q = spotB R.L t.data.toList := ⟨_, rfl⟩
  rw [← hq] at HR ⊢
  clear hq
  obtain ⟨⟨e3, R3⟩, hr3⟩ : ∃ x, x = removeR R t := ⟨_, rfl⟩
  have k3 := removeF_calls G1.out.up t hts
  rw [← hr3] at k3 HR
  have K3 := Aside0.mk k3
  clear k3 hr3
  cases q
  case' true =>
    go_wp2_with fail
    refine K3.out.mono ?_
    rintro e w3 ⟨rfl, h3, hk3⟩
    have G3 := Aside0.mk (G1.out.step h3 hk3)
    by_cases he3 : e3 = 0
    case' neg =>
      have HE : Aside0 ((e3, R3) = res) := ⟨by rw [← HR.out, if_pos trivial, if_pos he3]⟩
      obtain rfl := HE.out
      have hnb : (e3 != 0) = true := by simpa using he3
      clear he3 h3 hk3
      go_wp2
      go_ret
      exact ⟨rfl, G3.out⟩
    case' pos =>
      subst he3
      have HR1 : Aside0 (wholeT R3 t s xs = res) := ⟨by rw [← HR.out, if_pos trivial, if_neg (by simp)]⟩
      have TT : ∃ S', Aside0 (WentR w w3 w0 ok r S') ∧ Aside0 (wholeT S' t s xs = res) := ⟨_, G3, HR1⟩
      clear G3 HR1 h3 hk3 K3 HR G1
  case' false =>
    have HR1 : Aside0 (wholeT R t s xs = res) := ⟨by rw [← HR.out, if_neg (by simp)]⟩
    have TT : ∃ S', Aside0 (WentR w w1 w0 ok r S') ∧ Aside0 (wholeT S' t s xs = res) := ⟨_, G1, HR1⟩
    clear HR1 K3 HR G1
  all_goals
    obtain ⟨S4, G4, HR4⟩ := TT
    rw [HT.out] at HR4
    have k5 := appendR_calls G4.out.up t hts A c xs (fun W' hk => HXS.out W' (G4.out.kept.then_ hk (fun _ h => h))) hc hxl
    obtain ⟨⟨e5, S5⟩, hr5⟩ : ∃ x, appendR S4 t xs = x := ⟨_, rfl⟩
    rw [hr5] at k5 HR4
    have K5 := Aside0.mk k5
    clear k5 hr5
    go_wp2_with fail
    refine K5.out.mono ?_
    rintro e w5 ⟨rfl, h5, hk5⟩
    have G5 := Aside0.mk (G4.out.step h5 hk5)
    clear h5 hk5 K5 G4
    by_cases he5 : e5 = 0
    case' neg =>
      have HE : Aside0 ((e5, S5) = res) := ⟨by rw [← HR4.out, if_pos he5]⟩
      obtain rfl := HE.out
      have hnb : (e5 == 0) = false := by simpa using he5
      clear he5
      go_wp2
      go_ret
      exact ⟨rfl, G5.out⟩
    case' pos =>
      subst he5
      rw [if_neg (by simp)] at HR4
      have k6 := syncR_calls G5.out.up t hts
      obtain ⟨⟨e6, S6⟩, hr6⟩ : ∃ x, syncR S5 t = x := ⟨_, rfl⟩
      rw [hr6] at k6 HR4
      have K6 := Aside0.mk k6
      clear k6 hr6
      go_wp2_with fail
      refine K6.out.mono ?_
      rintro e w6 ⟨rfl, h6, hk6⟩
      have G6 := Aside0.mk (G5.out.step h6 hk6)
      clear h6 hk6 K6 G5
      by_cases he6 : e6 = 0
      case' neg =>
        have HE : Aside0 ((e6, S6) = res) := ⟨by rw [← HR4.out, if_pos he6]⟩
        obtain rfl := HE.out
        have hnb : (e6 == 0) = false := by simpa using he6
        clear he6
        go_wp2
        go_ret
        exact ⟨rfl, G6.out⟩
      case' pos =>
        subst he6
        rw [if_neg (by simp)] at HR4
        have k7 := renR_calls G6.out.up t hts s hsz
        rw [HR4.out] at k7
        have K7 := Aside0.mk k7
        clear k7
        go_wp2_with fail
        refine K7.out.mono ?_
        rintro e w7 ⟨rfl, h7, hk7⟩
        have G7 := Aside0.mk (G6.out.step h7 hk7)
        clear h7 hk7 K7 G6
        go_wp2
        go_ret
        exact ⟨rfl, G7.out⟩
set_option maxRecDepth 100000 in
set_option maxHeartbeats 4000000 in
theorem saveR_up (h : RefUp w w0 ok r R) (s : ByteArray) (A : Option Addr) (c : Nat) (l : List Int) (hC : Kd.C (Kd.int .u8) w A l.length l) (hc : l.length ≤ c) (hb : Bytes l) :
    Calls Try.prog 27 #[.pointer (some ⟨r, 0, none⟩), .string s, .slice A l.length c] w fun e w' => e = .returned (.int .i64 (saveR R s l).1) ∧ WentR w w' w0 ok r (saveR R s l).2 := by
  obtain ⟨res, hres⟩ : ∃ res, saveR R s l = res := ⟨_, rfl⟩
  rw [hres]
  have HRES := Aside0.mk hres
  have HD := Aside0.mk h
  have K1 := Aside0.mk (encR_calls A c l w hC hc hb)
  clear hres h hC hb
  by_cases hs1 : s.size < 1
  · have HE : Aside0 ((1, R) = res) := ⟨by rw [← HRES.out]; unfold saveR; rw [if_pos (.inl hs1)]⟩
    obtain rfl := HE.out
    go_enter Try.func27, Try.ntmps27
    go_wp2
    go_ret
    exact ⟨rfl, WentR.refl HD.out⟩
  · by_cases hs2 : 60 < s.size
    · have HE : Aside0 ((1, R) = res) := ⟨by rw [← HRES.out]; unfold saveR; rw [if_pos (.inr hs2)]⟩
      obtain rfl := HE.out
      go_enter Try.func27, Try.ntmps27
      go_wp2
      go_ret
      exact ⟨rfl, WentR.refl HD.out⟩
    · by_cases hbig : 1048576 < l.length
      · have HE : Aside0 ((5, R) = res) := ⟨by rw [← HRES.out]; unfold saveR; rw [if_neg (by omega), if_pos hbig]⟩
        obtain rfl := HE.out
        have he : encV l = ([], 5) := by unfold encV; rw [if_pos hbig]
        rw [he] at K1
        go_enter Try.func27, Try.ntmps27
        go_wp2_with fail
        refine K1.out.mono ?_
        rintro e w1 ⟨A1, c1, rfl, hc1, hC1, hb1⟩
        go_wp2
        go_ret
        exact ⟨rfl, (WentR.refl HD.out).quiet hb1⟩
      · have he : encV l = (encF l, 0) := by unfold encV; rw [if_neg hbig]
        rw [he] at K1
        have HE : Aside0 (wholeR R s (encF l) = res) := ⟨by rw [← HRES.out]; unfold saveR; rw [if_neg (show ¬ (s.size < 1 ∨ 60 < s.size) from by omega), if_neg hbig]⟩
        have hel : (encF l).length ≤ 1048588 := by rw [encF_len]; omega
        clear he
        generalize encF l = ys at K1 hel HE
        go_enter Try.func27, Try.ntmps27
        go_wp2_with fail
        refine K1.out.mono ?_
        rintro e w1 ⟨A1, c1, rfl, hc1, hF1, hb1⟩
        have HW := Aside0.mk (whole_up (HD.out.bound.quiet hb1) s (by omega) A1 c1 ys (fun W' hk => hF1 W' (fun k h1 h2 => hk.2 k h2 (fun h3 => by have := h3.2.2; omega))) hc1 (by omega))
        rw [HE.out] at HW
        have HB1 := Aside0.mk hb1
        clear hF1 hb1 K1
        go_wp2_with fail
        refine HW.out.mono ?_
        rintro e w2 ⟨rfl, hu, hk⟩
        have HU := Aside0.mk hu
        have HK := Aside0.mk hk
        clear hu hk HW
        go_wp2
        go_ret
        exact ⟨rfl, HU.out.mono (fun k hk => hk.imp (fun h => h.1) (fun h => Nat.le_trans HB1.out.size h)), ((Kept.refl w ok).below HB1.out).then_ HK.out (fun k hk => .inl hk.1)⟩
set_option maxRecDepth 100000 in
set_option maxHeartbeats 4000000 in
theorem loadR_up (h : RefUp w w0 ok r R) (s : ByteArray) (hby : Bytes (readRV R s.data.toList).1) (hxl : (readRV R s.data.toList).1.length ≤ 1073741824) :
    Calls Try.prog 28 #[.pointer (some ⟨r, 0, none⟩), .string s] w fun e w' => ∃ A c, e = .returned (.tuple #[.slice A (loadR R s).1.length c, .int .i64 (loadR R s).2]) ∧ (loadR R s).1.length ≤ c ∧ Kd.C (Kd.int .u8) w' A (loadR R s).1.length (loadR R s).1 ∧ Below w.heap.size w w' := by
  have k1 := read_ref h s
  obtain ⟨⟨l, e0⟩, hl⟩ : ∃ x, x = readRV R s.data.toList := ⟨_, rfl⟩
  rw [← hl] at k1 hby hxl
  simp only at hby hxl
  have HL : Aside0 (loadR R s = if e0 ≠ 0 then ([], 7) else if (oneF l).2 ≠ 0 then ([], 3) else ((oneF l).1, 0)) := ⟨by unfold loadR; rw [← hl]⟩
  have K1 := Aside0.mk k1
  have HBY := Aside0.mk hby
  clear k1 hl h hby
  by_cases h0 : e0 = 0
  case neg =>
    have HE : Aside0 (loadR R s = ([], 7)) := ⟨by rw [HL.out, if_pos h0]⟩
    have hnb : (e0 != 0) = true := by simpa using h0
    clear h0
    go_enter Try.func28, Try.ntmps28
    go_wp2_with fail
    refine K1.out.mono ?_
    rintro e w1 ⟨A, c, rfl, _, _, hb⟩
    go_wp2
    go_ret2
    rw [HE.out]
    exact ⟨none, 0, rfl, by simp, ⟨rfl, by simp, fun h => absurd h (by simp)⟩, hb⟩
  case pos =>
    subst h0
    rw [if_neg (by simp)] at HL
    have HO : Aside0 (∀ A c W, Kd.C (Kd.int .u8) W A l.length l → l.length ≤ c → Calls Try.prog 64 #[.slice A l.length c] W fun e w' => ∃ A' c', e = .returned (.tuple #[.slice A' (oneT l).length c', .int .i64 (oneF l).2]) ∧ (oneT l).length ≤ c' ∧ Kd.C (Kd.int .u8) w' A' (oneT l).length (oneT l) ∧ Below W.heap.size W w') := ⟨fun A c W h1 h2 => oneR_calls A c l W h1 h2 HBY.out (by omega)⟩
    obtain ⟨⟨p, e1⟩, hp⟩ : ∃ x, oneF l = x := ⟨_, rfl⟩
    have HT : Aside0 (oneT l = if e1 = 0 then p else []) := ⟨by unfold oneT; rw [hp]⟩
    rw [hp] at HL
    rw [hp] at HO
    clear hp
    go_enter Try.func28, Try.ntmps28
    go_wp2_with fail
    refine K1.out.mono ?_
    rintro e w1 ⟨A, c, rfl, hc1, hC1, hb⟩
    have K2 := Aside0.mk (HO.out A c w1 hC1 hc1)
    have HB := Aside0.mk hb
    clear hC1 hb K1 HO
    by_cases he : e1 = 0
    · subst he
      rw [if_neg (by simp)] at HL
      rw [HT.out, if_pos rfl] at K2
      go_wp2_with fail
      refine K2.out.mono ?_
      rintro e w2 ⟨A2, c2, rfl, hc2, hC2, hb2⟩
      go_wp2
      go_ret2
      rw [HL.out]
      exact ⟨A2, c2, rfl, hc2, hC2, HB.out.trans (hb2.mono HB.out.size)⟩
    · rw [if_pos he] at HL
      rw [HT.out, if_neg he] at K2
      have hnb : (e1 != 0) = true := by simpa using he
      clear he
      go_wp2_with fail
      refine K2.out.mono ?_
      rintro e w2 ⟨A2, c2, rfl, hc2, hC2, hb2⟩
      go_wp2
      go_ret2
      rw [HL.out]
      exact ⟨none, 0, rfl, by simp, ⟨rfl, by simp, fun h => absurd h (by simp)⟩, HB.out.trans (hb2.mono HB.out.size)⟩
end
end Go.Proofs.Ytdepjlnljkbfjaa.Hand

/- The document's answer to keep: Clear on the reference's disk. -/
namespace Go.Proofs.Ytdepjlnljkbfjaa.Hand
open Go.RowKit Go.Proofs.Ytdepjlnljkbfjaa.PA Go.Proofs.Ytdepjlnljkbfjaa.MapP Go.Proofs.YtdepjlnljkbfjaaW.PrintWords Go.Proofs.YtdepjlnljkbfjaaW.PrintLast Go.Proofs.YtdepjlnljkbfjaaW.PrintMore
attribute [local go_sem] max2_int min2_int
set_option linter.unusedVariables false
set_option linter.unusedSimpArgs false
set_option linter.unusedSectionVars false
theorem data_inj {x y : ByteArray} (h : x.data.toList = y.data.toList) : x = y := by
  cases x; cases y
  simp only at h
  congr 1
  exact Array.toList_inj.1 h
theorem cut_data (x : ByteArray) (n : Nat) : (x.extract 0 n).data.toList = x.data.toList.take n := by
  rw [ByteArray.data_extract, Array.toList_extract]
  simp [List.extract_eq_take_drop]
theorem size_data (x : ByteArray) : x.size = x.data.toList.length := (Array.length_toList (xs := x.data)).symm
theorem pref_cut (x p : ByteArray) : (x.extract 0 p.size = p) ↔ Lib.hasPrefix x.data.toList p.data.toList = true := by
  unfold Lib.hasPrefix
  rw [List.isPrefixOf_iff_prefix, List.prefix_iff_eq_take, ← size_data, ← cut_data]
  exact ⟨fun h => by rw [h], fun h => (data_inj h).symm⟩
theorem pref_short (x p : ByteArray) (h : x.size < p.size) : Lib.hasPrefix x.data.toList p.data.toList = false := by
  cases hb : Lib.hasPrefix x.data.toList p.data.toList with
  | false => rfl
  | true =>
    unfold Lib.hasPrefix at hb
    rw [List.isPrefixOf_iff_prefix] at hb
    have := hb.length_le
    rw [← size_data, ← size_data] at this
    omega
def keepB (stay : List ByteArray) (x : ByteArray) (k : Nat) : Bool := Lib.containsS (stay.take k) x
theorem keep_none (stay : List ByteArray) (x : ByteArray) : keepB stay x 0 = false := by
  unfold keepB
  rw [Bool.eq_false_iff]
  intro h
  rw [Lib.containsS_iff] at h
  simp at h
theorem keep_all (stay : List ByteArray) (x : ByteArray) : keepB stay x stay.length = Lib.containsS stay x := by
  unfold keepB
  rw [List.take_length]
theorem keep_next (stay : List ByteArray) (x : ByteArray) (k : Nat) (hk : k < stay.length) (h : keepB stay x k = false) : keepB stay x (k + 1) = true ↔ stay.getD k ByteArray.empty = x := by
  unfold keepB at h ⊢
  rw [Bool.eq_false_iff, ne_eq, Lib.containsS_iff] at h
  rw [Lib.containsS_iff, List.take_succ_eq_append_getElem hk, List.getD_eq_getElem?_getD, List.getElem?_eq_getElem hk, Option.getD_some, List.mem_append, List.mem_singleton]
  exact ⟨fun e => e.elim (fun e => absurd e h) (fun e => e.symm), fun e => .inr e.symm⟩
theorem keep_on (stay : List ByteArray) (x : ByteArray) (k : Nat) (h : keepB stay x k = true) : keepB stay x (k + 1) = true := by
  unfold keepB at h ⊢
  rw [Lib.containsS_iff] at h ⊢
  exact (List.take_subset_take_left _ (Nat.le_succ k)) h
section
variable {w w0 w1 w2 W : World} {r : Nat} {ok okb : Nat → Prop} {R R1 R2 : RV}
theorem WentR.lift (g : WentR w1 w2 w0 okb r R1) (hb : Below w.heap.size w w1) (hok : ∀ k, okb k → ok k) : WentR w w2 w0 ok r R1 :=
  ⟨g.up.mono (fun k hk => hk.imp (hok k) (fun h => Nat.le_trans hb.size h)), ((Kept.refl w ok).below hb).then_ g.kept (fun k hk => .inl (hok k hk))⟩
theorem names_ref (h : RefUp w w0 ok r R) : Calls Try.prog 33 #[.pointer (some ⟨r, 0, none⟩)] w fun e w' => ∃ A c, e = .returned (.slice A (namesR R).length c) ∧ (namesR R).length ≤ c ∧ Kd.R Kd.string 9 w' w.heap.size (fun k => w.heap.size ≤ k) (.slice A (namesR R).length c) (namesR R) ∧ Below w.heap.size w w' := by
  obtain ⟨⟨vL, es, hi, _⟩, _, hf⟩ := h
  exact listR_calls hi (by rw [← hi.len]; exact hf.many) (fun b hb => hi.lt b hb)
set_option maxRecDepth 100000 in
set_option maxHeartbeats 8000000 in
theorem clearR_up (h : RefUp w w0 ok r R) (p : ByteArray) (A : Option Addr) (c : Nat) (stay : List ByteArray) (hst : ∀ W', Kept w W' ok → Kd.C Kd.string W' A stay.length stay) (hks : ∀ q ∈ R.L, q.1.length ≤ maxLen) :
    Calls Try.prog 29 #[.pointer (some ⟨r, 0, none⟩), .string p, .slice A stay.length c] w fun e w' => e = .returned (.int .i64 (clearR p.data.toList stay R (R.L.map (·.1))).1) ∧ WentR w w' w0 ok r (clearR p.data.toList stay R (R.L.map (·.1))).2 := by
  obtain ⟨ks, hks2⟩ : ∃ ks, ks = R.L.map (·.1) := ⟨_, rfl⟩
  obtain ⟨res, hres⟩ : ∃ res, clearR p.data.toList stay R ks = res := ⟨_, rfl⟩
  rw [← hks2, hres]
  have HRES := Aside0.mk hres
  have k1 := names_ref h.bound
  have hmany := h.fine.many
  obtain ⟨ns, hns⟩ : ∃ ns, ns = namesR R := ⟨_, rfl⟩
  have HNS : Aside0 (ns = ks.map byK) := ⟨by rw [hns, hks2]; unfold namesR; rw [List.map_map]; rfl⟩
  have hnl : ns.length ≤ 4096 := by rw [HNS.out, List.length_map, hks2, List.length_map]; exact hmany
  have HKS : Aside0 (∀ k ∈ ks, k.length ≤ maxLen) := ⟨fun k hk => by
    rw [hks2] at hk
    obtain ⟨q, hq, rfl⟩ := List.mem_map.1 hk
    exact hks q hq⟩
  rw [← hns] at k1
  obtain ⟨okb, hokb⟩ : ∃ okb : Nat → Prop, okb = fun k => ok k ∧ w0.heap.size ≤ k ∧ k < w.heap.size := ⟨_, rfl⟩
  have HDB := Aside0.mk h.bound
  rw [← hokb] at HDB
  have HOK : Aside0 (∀ k, okb k → ok k) := ⟨by rw [hokb]; exact fun _ h => h.1⟩
  have HLT : Aside0 (∀ k, okb k → k < w.heap.size) := ⟨by rw [hokb]; exact fun _ h => h.2.2⟩
  have HST := Aside0.mk hst
  have hsl := (hst w (Kept.refl _ _)).2.1
  have K1 := Aside0.mk k1
  clear k1 hns hks2 hokb h hres hst hmany hks
  go_enter Try.func29, Try.ntmps29
  go_wp2_with fail
  refine K1.out.mono ?_
  rintro e w1 ⟨A1, c1, rfl, hc1, hR1, hb1⟩
  have G1 := Aside0.mk (WentR.refl (HDB.out.quiet hb1))
  have HR1 := Aside0.mk hR1
  have HB1 := Aside0.mk hb1
  clear hR1 hb1 K1
  go_wp2
  go_loopw [8] (fun s8 wr => ∃ (i : Nat) (S' : RV), i ≤ ns.length ∧ s8 = .int .i64 i ∧ Aside0 (WentR w1 wr w0 okb r S') ∧ Aside0 (clearR p.data.toList stay S' (ks.drop i) = res)) (fun s _ => ns.length - (intOf s).toNat)
  case atStart => exact ⟨0, R, Nat.zero_le _, rfl, G1, HRES⟩
  case round =>
    clear G1 HRES
    obtain ⟨i, S', hi, rfl, G, HR⟩ := hrel
    by_cases hlt : i < ns.length
    · have hRw := Kd.R_kept HR1.out G.out.kept (fun k hk h => by have := HLT.out k h; omega)
      have hCw := (Kd.R_reads' hRw).2.2
      have hA1 : ∃ ad, A1 = some ad := by obtain ⟨ad, e, _⟩ := hCw.2.2 (by omega); exact ⟨ad, e⟩
      obtain ⟨ad, rfl⟩ := hA1
      obtain ⟨g, o, rfl, hcells⟩ := plain_str hCw (by omega)
      have hcell := hcells i hlt
      clear hcells
      have hkl : ks.length = ns.length := by rw [HNS.out, List.length_map]
      obtain ⟨k, hk⟩ : ∃ k, ks[i]? = some k := ⟨_, List.getElem?_eq_getElem (by omega)⟩
      have hnk : ns.getD i ByteArray.empty = byK k := by rw [HNS.out]; simp [hk]
      rw [hnk] at hcell
      have hdr : ks.drop i = k :: ks.drop (i + 1) := by
        rw [List.drop_eq_getElem_cons (by omega)]
        congr 1
        have := List.getElem?_eq_getElem (l := ks) (i := i) (by omega)
        rw [hk] at this
        injection this with this
        exact this.symm
      rw [hdr] at HR
      have hkm : (byK k).size ≤ maxLen := by have := HKS.out k (List.mem_of_getElem? hk); simpa [byK, ByteArray.size] using this
      have HCL : Aside0 ((if takeB p.data.toList stay k = true then (if (removeR S' (byK k)).1 ≠ 0 then removeR S' (byK k) else clearR p.data.toList stay (removeR S' (byK k)).2 (ks.drop (i + 1))) else clearR p.data.toList stay S' (ks.drop (i + 1))) = res) := ⟨HR.out⟩
      obtain ⟨x, hx⟩ : ∃ x, x = byK k := ⟨_, rfl⟩
      have HTB : Aside0 (takeB p.data.toList stay k = (Lib.hasPrefix x.data.toList p.data.toList && !(Lib.containsS stay x))) := ⟨by rw [hx]; rfl⟩
      rw [← hx] at hcell HCL hkm
      rw [HTB.out] at HCL
      have HKM := Aside0.mk hkm
      have HCELL : Aside0 (∀ wq, Below wr.heap.size wr wq → wq.cell? ⟨g, o + i, none⟩ = some (.string x)) := ⟨fun wq hq => cell_below hcell hq⟩
      clear hRw hCw hkl hk hnk hdr hkm HR hx HTB
      by_cases hpl : x.size < p.size
      · have HR2 : Aside0 (clearR p.data.toList stay S' (ks.drop (i + 1)) = res) := ⟨by rw [← HCL.out, pref_short x p hpl]; simp⟩
        go_wp2
        go_roundw
        case measure => simp [intOf]; omega
        case rel => exact ⟨i + 1, S', by omega, by go_num, G, HR2⟩
      · by_cases hq : x.extract 0 p.size = p
        case neg =>
          have HR2 : Aside0 (clearR p.data.toList stay S' (ks.drop (i + 1)) = res) := ⟨by rw [← HCL.out, show Lib.hasPrefix x.data.toList p.data.toList = false from by rw [Bool.eq_false_iff]; exact fun e => hq ((pref_cut x p).2 e)]; simp⟩
          have hnb : ((x.extract 0 p.size).toList == p.toList) = false := by rw [Bool.eq_false_iff]; exact fun e => hq ((Lib.bytes_beq_iff _ _).1 e)
          go_wp2
          go_roundw
          case measure => simp [intOf]; omega
          case rel => exact ⟨i + 1, S', by omega, by go_num, G, HR2⟩
        case pos =>
          have HC2 : Aside0 ((if (!(Lib.containsS stay x)) = true then (if (removeR S' x).1 ≠ 0 then removeR S' x else clearR p.data.toList stay (removeR S' x).2 (ks.drop (i + 1))) else clearR p.data.toList stay S' (ks.drop (i + 1))) = res) := ⟨by rw [← HCL.out, (pref_cut x p).1 hq, Bool.true_and]⟩
          have hnb : ((x.extract 0 p.size).toList == p.toList) = true := (Lib.bytes_beq_iff _ _).2 hq
          clear hq HCL
          go_wp2
          go_loopw [9, 10] (fun s9 s10 wq => ∃ j : Nat, j ≤ stay.length ∧ s9 = .bool (keepB stay x j) ∧ s10 = .int .i64 j ∧ Aside0 (Below wr.heap.size wr wq)) (fun _ s10 _ => stay.length - (intOf s10).toNat)
          case atStart => exact ⟨0, Nat.zero_le _, by rw [keep_none], rfl, ⟨Below.refl _ _⟩⟩
          case round =>
            obtain ⟨j, hj, rfl, rfl, HBq⟩ := hrel
            have G2 := Aside0.mk (G.out.quiet HBq.out)
            by_cases hjl : j < stay.length
            · cases hkj : keepB stay x j with
              | true =>
                have HNX := Aside0.mk (keep_on stay x j hkj)
                go_wp2
                go_quiet (fail)
                go_wp2
                go_roundw
                case measure => simp [intOf]; omega
                case rel => exact ⟨j + 1, by omega, by rw [HNX.out], by go_num, ⟨HBq.out.trans (bdrewN (Below.refl _ _) _)⟩⟩
              | false =>
                have hnx := keep_next stay x j hjl hkj
                have hCs := HST.out _ (((Kept.refl w ok).below HB1.out).then_ (G2.out.kept) (fun k hk => .inl (HOK.out k hk)))
                have hAs : ∃ ad, A = some ad := by obtain ⟨ad, e, _⟩ := hCs.2.2 (by omega); exact ⟨ad, e⟩
                obtain ⟨ad, rfl⟩ := hAs
                obtain ⟨gs, os, rfl, hscells⟩ := plain_str hCs (by omega)
                have hsc := hscells j hjl
                have hcx := HCELL.out _ HBq.out
                obtain ⟨y, hy⟩ : ∃ y, y = stay.getD j ByteArray.empty := ⟨_, rfl⟩
                rw [← hy] at hsc hnx
                clear hscells hCs hy
                by_cases hyx : y = x
                · have HNX : Aside0 (keepB stay x (j + 1) = true) := ⟨hnx.2 hyx⟩
                  have hb1 : (y.toList == x.toList) = true := (Lib.bytes_beq_iff _ _).2 hyx
                  clear hnx hyx
                  go_wp2
                  go_quiet (fail)
                  go_wp2
                  go_roundw
                  case measure => simp [intOf]; omega
                  case rel => exact ⟨j + 1, by omega, by rw [HNX.out], by go_num, ⟨HBq.out.trans (bdrewN (Below.refl _ _) _)⟩⟩
                · have HNX : Aside0 (keepB stay x (j + 1) = false) := ⟨by rw [Bool.eq_false_iff]; exact fun e => hyx (hnx.1 e)⟩
                  have hb1 : (y.toList == x.toList) = false := by rw [Bool.eq_false_iff]; exact fun e => hyx ((Lib.bytes_beq_iff _ _).1 e)
                  clear hnx hyx
                  go_wp2
                  go_quiet (fail)
                  go_wp2
                  go_roundw
                  case measure => simp [intOf]; omega
                  case rel => exact ⟨j + 1, by omega, by rw [HNX.out], by go_num, ⟨HBq.out.trans (bdrewN (Below.refl _ _) _)⟩⟩
            · obtain rfl : j = stay.length := by omega
              rw [keep_all]
              have hcx := HCELL.out _ HBq.out
              have k3 := removeF_calls G2.out.up x HKM.out
              obtain ⟨⟨e3, S3⟩, hr3⟩ : ∃ z, z = removeR S' x := ⟨_, rfl⟩
              rw [← hr3] at k3 HC2
              have K3 := Aside0.mk k3
              clear k3 hr3
              obtain ⟨b2, hb2⟩ : ∃ b, b = Lib.containsS stay x := ⟨_, rfl⟩
              rw [← hb2] at HC2 ⊢
              clear hb2
              cases b2
              · go_wp2_with fail
                refine K3.out.mono ?_
                rintro e w5 ⟨rfl, h5, hk5⟩
                have G5 := Aside0.mk (G2.out.step h5 hk5)
                clear h5 hk5 hcell hcx
                by_cases he : e3 = 0
                · subst he
                  have HR2 : Aside0 (clearR p.data.toList stay S3 (ks.drop (i + 1)) = res) := ⟨by rw [← HC2.out]; simp⟩
                  go_wp2
                  go_roundw
                  case measure => simp [intOf]; omega
                  case rel => exact ⟨i + 1, S3, by omega, by go_num, G5, HR2⟩
                · have HE : Aside0 ((e3, S3) = res) := ⟨by rw [← HC2.out]; simp [he]⟩
                  obtain rfl := HE.out
                  have hnb3 : (e3 != 0) = true := by simpa using he
                  clear he
                  go_wp2
                  go_ret
                  exact ⟨rfl, G5.out.lift HB1.out HOK.out⟩
              · have HR2 : Aside0 (clearR p.data.toList stay S' (ks.drop (i + 1)) = res) := ⟨by rw [← HC2.out]; simp⟩
                go_wp2
                go_roundw
                case measure => simp [intOf]; omega
                case rel => exact ⟨i + 1, S', by omega, by go_num, G2, HR2⟩
    · obtain rfl : i = ns.length := by omega
      have hkl : ks.length = ns.length := by rw [HNS.out, List.length_map]
      rw [← hkl, List.drop_length] at HR
      have HE : Aside0 ((0, S') = res) := ⟨HR.out⟩
      obtain rfl := HE.out
      clear hkl
      go_wp2
      go_ret
      exact ⟨rfl, G.out.lift HB1.out HOK.out⟩
end
end Go.Proofs.Ytdepjlnljkbfjaa.Hand
