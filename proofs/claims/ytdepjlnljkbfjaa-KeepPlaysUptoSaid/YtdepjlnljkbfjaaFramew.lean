/- frame and octet: records, their check sums. -/
import Derived.Test.YtdepjlnljkbfjaaBase
import Derived.Laws.BytesArg
import Derived.Laws.BitsLemmas
namespace Go.Proofs.Ytdepjlnljkbfjaa.Hand
open Go.RowKit Go.Proofs.Ytdepjlnljkbfjaa.PA Go.Proofs.Ytdepjlnljkbfjaa.MapP Go.Proofs.YtdepjlnljkbfjaaW.PrintWords Go.Proofs.YtdepjlnljkbfjaaW.PrintLast Go.Proofs.YtdepjlnljkbfjaaW.PrintMore
attribute [local go_sem] max2_int min2_int
set_option linter.unusedVariables false
set_option linter.unusedSimpArgs false
set_option linter.unusedSectionVars false
/-- A byte taken into a check sum: eight turns. -/
def turnC (v : Int) : Int := Go.bits BinOp.xor IntKind.u32 (v / 2) (Go.bits BinOp.and IntKind.u32 3988292384 (-Go.bits BinOp.and IntKind.u32 v 1 % 4294967296))
def turnsC : Nat → Int → Int
  | 0, v => v
  | k + 1, v => turnC (turnsC k v)
def byteC (v b : Int) : Int := turnsC 8 (Go.bits BinOp.xor IntKind.u32 v (b % 4294967296))
def rowC (l : List Int) : Int := l.foldl byteC 4294967295
/-- The check sum of a row. -/
def sumL (l : List Int) : Int := Go.bits BinOp.xor IntKind.u32 IntKind.u32.max (rowC l)
set_option maxRecDepth 100000 in
set_option maxHeartbeats 2000000 in
theorem sum_calls (a : Addr) (A : Option Addr) (c : Nat) (l : List Int) (w : World) (hrow : w.cell? a = some (.slice A l.length c)) (hC : Kd.C (Kd.int .u8) w A l.length l) (hb : Bytes l) :
    Calls Try.prog 70 #[.slice (some a) 1 1] w fun e w' => e = .returned (.int .u32 (sumL l)) ∧ w' = w := by
  have HC := Aside0.mk hC
  have hll : l.length ≤ 9223372036854775807 := hC.2.1
  clear hC
  go_enter Try.func70, Try.ntmps70
  go_wp2
  go_loopw [3, 10] (fun s3 s10 wr => ∃ (i : Nat), i ≤ 1 ∧ s10 = .int .i64 i ∧ s3 = .int .u32 (if i = 0 then 4294967295 else rowC l) ∧ wr = w) (fun _ s10 _ => 1 - (intOf s10).toNat)
  case atStart => exact ⟨0, by omega, rfl, rfl, rfl⟩
  case round =>
    obtain ⟨i, hi, rfl, rfl, rfl⟩ := hrel
    by_cases h0 : i = 0
    · subst h0
      go_wp2
      go_loopw [3, 16] (fun s3 s16 wq => ∃ (j : Nat), j ≤ l.length ∧ s16 = .int .i64 j ∧ s3 = .int .u32 (rowC (l.take j)) ∧ wq = wr) (fun _ s16 _ => l.length - (intOf s16).toNat)
      case atStart => exact ⟨0, by omega, rfl, rfl, rfl⟩
      case round =>
        obtain ⟨j, hj, rfl, rfl, rfl⟩ := hrel
        by_cases hlt : j < l.length
        · obtain ⟨ad, rfl, hc⟩ := Kd.at_int HC.out (j : Int) (by omega) (by omega)
          simp only [Int.toNat_natCast] at hc
          obtain ⟨v0, hv0⟩ : ∃ v, v = rowC (l.take j) := ⟨_, rfl⟩
          obtain ⟨b, hbb⟩ : ∃ b, b = rd l (j : Int) := ⟨_, rfl⟩
          rw [← hv0]
          rw [← hbb] at hc
          have HV0 := Aside0.mk hv0
          have HBB := Aside0.mk hbb
          clear hbb hv0
          go_wp2
          obtain ⟨v1, hv1⟩ : ∃ v, v = Go.bits BinOp.xor IntKind.u32 v0 (b % 4294967296) := ⟨_, rfl⟩
          have HV1 := Aside0.mk hv1
          rw [← hv1]
          clear hv1
          go_loopw [3, 24] (fun s3 s24 wq => ∃ (k : Nat) (v : Int), k ≤ 8 ∧ s24 = .int .i64 k ∧ s3 = .int .u32 v ∧ Aside0 (v = turnsC k v1) ∧ wq = wr) (fun _ s24 _ => 8 - (intOf s24).toNat)
          case atStart => exact ⟨0, v1, by omega, rfl, rfl, ⟨rfl⟩, rfl⟩
          case round =>
            obtain ⟨k, v, hk, rfl, rfl, HV, rfl⟩ := hrel
            by_cases hlk : k < 8
            · go_wp2
              go_roundw
              case measure => simp [intOf]; omega
              case rel => exact ⟨k + 1, _, by omega, by go_num, rfl, ⟨by rw [HV.out]; rfl⟩, by first | rfl | trivial⟩
            · obtain rfl : k = 8 := by omega
              have hve : rowC (l.take (j + 1)) = v := by
                rw [List.take_succ_eq_append_getElem hlt, rowC, List.foldl_append, List.foldl_cons, List.foldl_nil, HV.out, HV1.out, HV0.out, HBB.out]
                simp [byteC, rd, rowC, List.getD_eq_getElem?_getD, hlt]
              have HVE := Aside0.mk hve
              clear hve
              go_wp2
              go_roundw
              case measure => simp [intOf]; omega
              case rel => exact ⟨j + 1, by omega, by go_num, by rw [HVE.out], by first | rfl | trivial⟩
        · obtain rfl : j = l.length := by omega
          rw [List.take_length]
          go_wp2
          go_roundw
          case measure => simp [intOf]
          case rel => exact ⟨1, by omega, by first | rfl | go_num, rfl, by first | rfl | trivial⟩
    · obtain rfl : i = 1 := by omega
      rw [if_neg h0]
      go_wp2
      all_goals first | exact absurd (by assumption : IntKind.u32.signed = true) (by decide) | (go_ret; exact ⟨rfl, rfl⟩)
theorem u32_range (op : BinOp) (x y : Int) : 0 ≤ Go.bits op .u32 x y ∧ Go.bits op .u32 x y < 4294967296 := by
  have h : ∀ n : Int, 0 ≤ IntKind.u32.wrap n ∧ IntKind.u32.wrap n < 4294967296 := fun n => by rw [IntKind.wrap_u32]; omega
  unfold Go.bits
  split <;> exact h _
theorem sumL_range (l : List Int) : 0 ≤ sumL l ∧ sumL l < 4294967296 := u32_range _ _ _
def fourF (v : Int) : List Int := [v % 256, v / 256 % 256, v / 65536 % 256, v / 16777216 % 256]
def fromV (l : List Int) : Int := Go.bits .or .u32 (Go.bits .or .u32 (Go.bits .or .u32 ((rd l 0) % 4294967296) ((((rd l 1) % 4294967296) * 256) % 4294967296)) ((((rd l 2) % 4294967296) * 65536) % 4294967296)) ((((rd l 3) % 4294967296) * 16777216) % 4294967296)
theorem fromV_range (l : List Int) : 0 ≤ fromV l ∧ fromV l < 4294967296 := u32_range _ _ _
theorem or_add (i : Nat) (x y : Int) (hx : x % 2 ^ i = 0) (hx0 : 0 ≤ x) (hx1 : x < 4294967296) (hy0 : 0 ≤ y) (hy : y < 2 ^ i) (hy1 : y < 4294967296) : Go.bits .or .u32 y x = x + y := by
  have h := bits_join .u32 32 (by decide) (fun n h0 h1 => by rw [IntKind.wrap_u32]; omega) i x y hx0 hx hx1 hy0 hy hy1
  rw [← h]
  unfold Go.bits
  simp only
  rw [BitVec.or_comm]
theorem from_four (v : Int) (h0 : 0 ≤ v) (h1 : v < 4294967296) (rest : List Int) : fromV (fourF v ++ rest) = v := by
  have r0 : rd (fourF v ++ rest) 0 = v % 256 := rfl
  have r1 : rd (fourF v ++ rest) 1 = v / 256 % 256 := rfl
  have r2 : rd (fourF v ++ rest) 2 = v / 65536 % 256 := rfl
  have r3 : rd (fourF v ++ rest) 3 = v / 16777216 % 256 := rfl
  unfold fromV
  rw [r0, r1, r2, r3]
  rw [or_add 8 (v / 256 % 256 % 4294967296 * 256 % 4294967296) (v % 256 % 4294967296) (by omega) (by omega) (by omega) (by omega) (by omega) (by omega)]
  rw [or_add 16 (v / 65536 % 256 % 4294967296 * 65536 % 4294967296) _ (by omega) (by omega) (by omega) (by omega) (by omega) (by omega)]
  rw [or_add 24 (v / 16777216 % 256 % 4294967296 * 16777216 % 4294967296) _ (by omega) (by omega) (by omega) (by omega) (by omega) (by omega)]
  omega
theorem fourF_bytes (v : Int) : Bytes (fourF v) := by
  intro z hz
  simp only [fourF, List.mem_cons, List.not_mem_nil, or_false] at hz
  rcases hz with rfl | rfl | rfl | rfl <;> omega
theorem bytes_app {a b : List Int} (ha : Bytes a) (hb : Bytes b) : Bytes (a ++ b) := fun z hz => (List.mem_append.1 hz).elim (ha z) (hb z)
def headF (n : Int) : List Int := fourF n ++ fourF (sumL (fourF n))
theorem headF_len (n : Int) : (headF n).length = 8 := rfl
theorem headF_bytes (n : Int) : Bytes (headF n) := bytes_app (fourF_bytes _) (fourF_bytes _)
/-- A record. -/
def encF (xs : List Int) : List Int := (headF xs.length ++ xs) ++ fourF (sumL (headF xs.length ++ xs))
theorem encF_len (xs : List Int) : (encF xs).length = xs.length + 12 := by unfold encF; simp [headF_len, fourF]; omega
theorem encF_bytes {xs : List Int} (h : Bytes xs) : Bytes (encF xs) := bytes_app (bytes_app (headF_bytes _) h) (fourF_bytes _)
/-- What Encode answers. -/
def encV (xs : List Int) : List Int × Int := if 1048576 < xs.length then ([], 5) else (encF xs, 0)
def decV (b : List Int) : List Int × Int × Int :=
  if b.length < 8 then ([], 0, 2)
  else if b.take 8 ≠ headF (fromV b) then ([], 0, 4)
  else if 1048576 < fromV b then ([], 0, 5)
  else if (b.length : Int) - 12 < fromV b then ([], 0, 2)
  else if fromV (b.drop (8 + (fromV b).toNat)) ≠ sumL (b.take (8 + (fromV b).toNat)) then ([], 0, 4)
  else ((b.take (8 + (fromV b).toNat)).drop 8, fromV b + 12, 0)
def oneF (b : List Int) : List Int × Int := if (decV b).2.2 = 0 ∧ (decV b).2.1 ≠ b.length then ([], 3) else ((decV b).1, (decV b).2.2)
theorem decV_enc (xs rest : List Int) (h : xs.length ≤ 1048576) : decV (encF xs ++ rest) = (xs, (xs.length : Int) + 12, 0) := by
  have e1 : encF xs ++ rest = fourF xs.length ++ (fourF (sumL (fourF xs.length)) ++ (xs ++ (fourF (sumL (headF xs.length ++ xs)) ++ rest))) := by unfold encF headF; simp only [List.append_assoc]
  have e2 : encF xs ++ rest = headF xs.length ++ (xs ++ (fourF (sumL (headF xs.length ++ xs)) ++ rest)) := by unfold encF; simp only [List.append_assoc]
  have e3 : encF xs ++ rest = (headF xs.length ++ xs) ++ (fourF (sumL (headF xs.length ++ xs)) ++ rest) := by unfold encF; simp only [List.append_assoc]
  have hf : fromV (encF xs ++ rest) = xs.length := by rw [e1]; exact from_four _ (by omega) (by omega) _
  have hl : (encF xs ++ rest).length = xs.length + 12 + rest.length := by rw [List.length_append, encF_len]
  have ht : (encF xs ++ rest).take 8 = headF xs.length := by rw [e2, List.take_left' (headF_len _)]
  have hn : 8 + ((xs.length : Int)).toNat = (headF xs.length ++ xs).length := by rw [List.length_append, headF_len]; omega
  unfold decV
  rw [hf, ht, if_neg (by omega), if_neg (by simp), if_neg (by omega), if_neg (by omega), hn]
  have ht2 : (encF xs ++ rest).take (headF xs.length ++ xs).length = headF xs.length ++ xs := by rw [e3, List.take_left]
  have hd2 : (encF xs ++ rest).drop (headF xs.length ++ xs).length = fourF (sumL (headF xs.length ++ xs)) ++ rest := by rw [e3, List.drop_left]
  rw [ht2, hd2, from_four _ (sumL_range _).1 (sumL_range _).2, if_neg (by simp), List.drop_left' (headF_len _)]
theorem oneF_enc (xs : List Int) (h : xs.length ≤ 1048576) : oneF (encF xs) = (xs, 0) := by
  have hd := decV_enc xs [] h
  rw [List.append_nil] at hd
  unfold oneF
  rw [hd, if_neg (by simp [encF_len])]
end Go.Proofs.Ytdepjlnljkbfjaa.Hand

/- frame: the walks. -/
namespace Go.Proofs.Ytdepjlnljkbfjaa.Hand
open Go.RowKit Go.Proofs.Ytdepjlnljkbfjaa.PA Go.Proofs.Ytdepjlnljkbfjaa.MapP Go.Proofs.YtdepjlnljkbfjaaW.PrintWords Go.Proofs.YtdepjlnljkbfjaaW.PrintLast Go.Proofs.YtdepjlnljkbfjaaW.PrintMore
attribute [local go_sem] max2_int min2_int
set_option linter.unusedVariables false
set_option linter.unusedSimpArgs false
set_option linter.unusedSectionVars false
theorem rows_two {w : World} {A B : Option Addr} {c d : Nat} {xs ys : List Int} (hA : Kd.C (Kd.int .u8) w A xs.length xs) (hc : xs.length ≤ c) (hB : Kd.C (Kd.int .u8) w B ys.length ys) (hd : ys.length ≤ d) (t : TypeId) :
    Kd.C (Kd.slice 5 (Kd.int .u8)) (w.alloc (.cells #[.slice A xs.length c, .slice B ys.length d] t)) (some ⟨w.heap.size, 0, none⟩) 2 [xs, ys] := by
  have hb := heap_alloc_new w (.cells #[.slice A xs.length c, .slice B ys.length d] t)
  refine ⟨rfl, by omega, fun _ => ⟨_, rfl, fun j p hj => ?_⟩⟩
  match j with
  | 0 =>
    cases hj
    refine ⟨[.slice A xs.length c], rfl, ⟨A, c, rfl, hc, Kd.C_alloc hA _⟩, fun i u hu => ?_⟩
    match i with
    | 0 =>
      cases hu
      rw [Addr.add_lit, blk_cell hb]
      rfl
    | i + 1 => simp at hu
  | 1 =>
    cases hj
    refine ⟨[.slice B ys.length d], rfl, ⟨B, d, rfl, hd, Kd.C_alloc hB _⟩, fun i u hu => ?_⟩
    match i with
    | 0 =>
      cases hu
      rw [Addr.add_lit, blk_cell hb]
      rfl
    | i + 1 => simp at hu
  | j + 2 => simp at hj
theorem bytes_take {l : List Int} (h : Bytes l) (k : Nat) : Bytes (l.take k) := fun z hz => h z (List.mem_of_mem_take hz)
theorem bytes_drop {l : List Int} (h : Bytes l) (k : Nat) : Bytes (l.drop k) := fun z hz => h z (List.mem_of_mem_drop hz)
theorem four_at (v : Int) (w : World) : Calls Try.prog 69 #[.int .u32 v] w fun e w' => ∃ A c, e = .returned (.slice A 4 c) ∧ 4 ≤ c ∧ Kd.C (Kd.int .u8) w' A 4 (fourF v) ∧ Below w.heap.size w w' := by
  refine (frame_four.calls v (fourF v) w rfl).mono ?_
  rintro e w' ⟨v0, rfl, hR, hb⟩
  obtain ⟨A, c, rfl, hc, hC⟩ := Kd.R_reads hR
  exact ⟨A, c, rfl, hc, hC, hb⟩
theorem from_at (A : Option Addr) (c : Nat) (l : List Int) (w : World) (hC : Kd.C (Kd.int .u8) w A l.length l) (hc : l.length ≤ c) (hl : 4 ≤ l.length) :
    Calls Try.prog 86 #[.slice A l.length c] w fun e w' => e = .returned (.int .u32 (fromV l)) ∧ Below w.heap.size w w' := by
  have h : frame_fromFour.f l = some (fromV l) := by
    unfold frame_fromFour.f
    rw [if_pos (by omega), if_pos (by omega), if_pos (by omega), if_pos (by omega)]
    rfl
  refine (frame_fromFour.calls A c l (fromV l) w hC hc h).mono ?_
  rintro e w' ⟨rfl, q, rfl⟩
  exact ⟨rfl, bdrewN (Below.refl _ _) q⟩
/-- The sum of one row, laid in a list of one. -/
theorem sum1 (A : Option Addr) (c : Nat) (l : List Int) (w : World) (hC : Kd.C (Kd.int .u8) w A l.length l) (hb : Bytes l) :
    Calls Try.prog 70 #[.slice (some ⟨w.heap.size, 0, none⟩) 1 1] (w.alloc (.cells #[.slice A l.length c] 23)) fun e w' => e = .returned (.int .u32 (sumL l)) ∧ w' = w.alloc (.cells #[.slice A l.length c] 23) :=
  sum_calls ⟨w.heap.size, 0, none⟩ A c l _ (by rw [blk_cell (heap_alloc_new w _)]; rfl) (Kd.C_alloc hC _) hb
theorem _root_.Go.Proofs.Ytdepjlnljkbfjaa.Hand.Fresh.older {w w1 w' : World} {A : Option Addr} {xs : List Int} (h : Fresh w1 w' A xs) (hs : w.heap.size ≤ w1.heap.size) : Fresh w w' A xs := fun W' hW => h W' (fun k hk => hW k (Nat.le_trans hs hk))
theorem join2 (A B : Option Addr) (c d : Nat) (xs ys : List Int) (w : World) (hA : Kd.C (Kd.int .u8) w A xs.length xs) (hc : xs.length ≤ c) (hB : Kd.C (Kd.int .u8) w B ys.length ys) (hd : ys.length ≤ d) (bx : Bytes xs) (by_ : Bytes ys) (ht : xs.length + ys.length ≤ 140737488355328) :
    Calls Try.prog 45 #[.slice (some ⟨w.heap.size, 0, none⟩) 2 2] (w.alloc (.cells #[.slice A xs.length c, .slice B ys.length d] 23)) fun e w' => ∃ A' c', e = .returned (.slice A' (xs.length + ys.length) c') ∧ xs.length + ys.length ≤ c' ∧ Kd.C (Kd.int .u8) w' A' (xs.length + ys.length) (xs ++ ys) ∧ Below w.heap.size w w' ∧ Fresh w w' A' (xs ++ ys) := by
  have h := join_calls2 (some ⟨w.heap.size, 0, none⟩) 2 [xs, ys] _ (rows_two hA hc hB hd 23) (by simp) (by intro l hl; simp at hl; rcases hl with rfl | rfl <;> assumption) (by simp) (by simpa using ht)
  have e2 : [xs, ys].flatten = xs ++ ys := by simp
  rw [e2, List.length_append] at h
  refine h.mono ?_
  rintro e w' ⟨A', c', rfl, hf, hb, hcl⟩
  have h2 := hf w' (fun _ _ _ => rfl)
  rw [List.length_append] at h2
  refine ⟨A', c', rfl, hcl, h2, ((Below.refl _ _).alloc (Nat.le_refl _) _).trans (hb.mono (by simp)), hf.older (by simp)⟩
theorem joinN (A : Option Addr) (c : Nat) (ls : List (List Int)) (w : World) (hC : Kd.C (Kd.slice 5 (Kd.int .u8)) w A ls.length ls) (hc : ls.length ≤ c) (hb : ∀ l ∈ ls, Bytes l) (hn : ls.length ≤ 140737488355328) (ht : ls.flatten.length ≤ 140737488355328) :
    Calls Try.prog 45 #[.slice A ls.length c] w fun e w' => ∃ A' c', e = .returned (.slice A' ls.flatten.length c') ∧ ls.flatten.length ≤ c' ∧ Kd.C (Kd.int .u8) w' A' ls.flatten.length ls.flatten ∧ Below w.heap.size w w' := by
  refine (join_calls2 A c ls w hC hc hb hn ht).mono ?_
  rintro e w' ⟨A', c', rfl, hf, hb, hcl⟩
  exact ⟨A', c', rfl, hcl, hf w' (fun _ _ _ => rfl), hb⟩
set_option maxRecDepth 100000 in
set_option maxHeartbeats 2000000 in
theorem head_calls (n : Int) (w : World) : Calls Try.prog 68 #[.int .u32 n] w fun e w' => ∃ A c, e = .returned (.slice A 8 c) ∧ 8 ≤ c ∧ Kd.C (Kd.int .u8) w' A 8 (headF n) ∧ Below w.heap.size w w' := by
  go_enter Try.func68, Try.ntmps68
  go_wp2_with fail
  refine (four_at n _).mono ?_
  rintro e w1 ⟨A1, c1, rfl, hc1, hC1, hb1⟩
  have HC1 := Aside0.mk hC1
  have HB1 := Aside0.mk hb1
  clear hC1 hb1
  go_wp2_with fail
  refine (four_at n _).mono ?_
  rintro e w2 ⟨A2, c2, rfl, hc2, hC2, hb2⟩
  have k3 := sum1 A2 c2 (fourF n) w2 hC2 (fourF_bytes n)
  have K3 := Aside0.mk k3
  have HC1 := Aside0.mk (Kd.C_below HC1.out hb2)
  have HB2 := Aside0.mk (HB1.out.trans (hb2.mono HB1.out.size))
  clear hC2 hb2 k3
  obtain ⟨sm, hsm⟩ : ∃ sm, sm = sumL (fourF n) := ⟨_, rfl⟩
  rw [← hsm] at K3
  have HSM := Aside0.mk hsm
  clear hsm
  go_wp2_with fail
  refine K3.out.mono ?_
  rintro e w3 ⟨rfl, rfl⟩
  have HB3 := Aside0.mk (HB2.out.alloc HB2.out.size (.cells #[.slice A2 4 c2] 23))
  go_wp2_with fail
  refine (four_at sm _).mono ?_
  rintro e w4 ⟨A4, c4, rfl, hc4, hC4, hb4⟩
  have hb4' : Below w2.heap.size w2 w4 := ((Below.refl _ _).alloc (Nat.le_refl _) _).trans (hb4.mono (by simp))
  have k5 := join2 A1 A4 c1 c4 (fourF n) (fourF sm) w4 (Kd.C_below HC1.out hb4') hc1 hC4 hc4 (fourF_bytes _) (fourF_bytes _) (by simp [fourF])
  have K5 := Aside0.mk k5
  have HB4 := Aside0.mk (HB2.out.trans (hb4'.mono HB2.out.size))
  clear k5 hb4 hb4' hC4
  go_wp2_with fail
  refine K5.out.mono ?_
  rintro e w5 ⟨A5, c5, rfl, hc5, hC5, hb5, _⟩
  go_wp2
  go_ret
  refine ⟨A5, c5, rfl, hc5, ?_, HB4.out.trans (hb5.mono HB4.out.size)⟩
  rw [HSM.out] at hC5
  exact hC5
theorem flat_le (ls : List (List Int)) (i : Nat) : (ls.take i).flatten.length ≤ ls.flatten.length := by
  have h : ls.flatten = (ls.take i).flatten ++ (ls.drop i).flatten := by rw [← List.flatten_append, List.take_append_drop]
  have h2 := congrArg List.length h
  rw [List.length_append] at h2
  omega
set_option maxRecDepth 100000 in
set_option maxHeartbeats 2000000 in
theorem enc_calls (A : Option Addr) (c : Nat) (ls : List (List Int)) (w : World) (hC : Kd.C (Kd.slice 5 (Kd.int .u8)) w A ls.length ls) (hc : ls.length ≤ c) (hb : ∀ l ∈ ls, Bytes l) (hn : ls.length ≤ 140737488355328) (ht : ls.flatten.length ≤ 140737488355328) :
    Calls Try.prog 36 #[.slice A ls.length c] w fun e w' => ∃ A' c', e = .returned (.tuple #[.slice A' (encV ls.flatten).1.length c', .int .i64 (encV ls.flatten).2]) ∧ (encV ls.flatten).1.length ≤ c' ∧ Kd.C (Kd.int .u8) w' A' (encV ls.flatten).1.length (encV ls.flatten).1 ∧ Below w.heap.size w w' ∧ Fresh w w' A' (encV ls.flatten).1 := by
  have HC := Aside0.mk hC
  have HBY := Aside0.mk hb
  have HFB := Aside0.mk (flat_bytes hb)
  clear hC hb
  go_enter Try.func36, Try.ntmps36
  go_wp2
  go_loopw [4, 10] (fun s4 s10 wr => ∃ i : Nat, i ≤ ls.length ∧ s10 = .int .i64 i ∧ s4 = .int .i64 ((ls.take i).flatten.length : Nat) ∧ wr = w) (fun _ s10 _ => ls.length - (intOf s10).toNat)
  case atStart => exact ⟨0, Nat.zero_le _, rfl, rfl, rfl⟩
  case round =>
    obtain ⟨i, hi, rfl, rfl, rfl⟩ := hrel
    by_cases hlt : i < ls.length
    · obtain ⟨a, A', c', rfl, hrow, hrc, _⟩ := row_at HC.out i hlt
      have hfl := flat_succ ls i hlt
      have hle := flat_le ls (i + 1)
      rw [hfl, List.length_append] at hle
      obtain ⟨n, hn'⟩ : ∃ n, n = (ls.getD i []).length := ⟨_, rfl⟩
      obtain ⟨m, hm⟩ : ∃ m, m = (ls.take i).flatten.length := ⟨_, rfl⟩
      rw [← hn', ← hm] at hle
      rw [← hn'] at hrow hrc
      rw [← hm]
      have hsum : (ls.take (i + 1)).flatten.length = m + n := by rw [hfl, List.length_append, ← hm, ← hn']
      have HSUM := Aside0.mk hsum
      clear hn' hm hfl hsum
      go_wp2
      go_roundw
      case measure => simp [intOf]; omega
      case rel => exact ⟨i + 1, by omega, by go_num, by rw [HSUM.out]; go_num, by first | rfl | trivial⟩
    · obtain rfl : i = ls.length := by omega
      rw [List.take_length]
      have hjoin := joinN A c ls
      have HENC : ∀ xs, xs = ls.flatten → encV ls.flatten = encV xs := fun xs h => by rw [h]
      obtain ⟨xs, hxs⟩ : ∃ xs, xs = ls.flatten := ⟨_, rfl⟩
      have HJ : Aside0 (∀ W, Below wr.heap.size wr W → Calls Try.prog 45 #[.slice A ls.length c] W fun e w' => ∃ A' c', e = .returned (.slice A' xs.length c') ∧ xs.length ≤ c' ∧ Kd.C (Kd.int .u8) w' A' xs.length xs ∧ Below W.heap.size W w') := ⟨fun W hW => by
        subst hxs
        exact joinN A c ls W (Kd.C_below HC.out hW) hc HBY.out hn ht⟩
      rw [← hxs] at ht HFB ⊢
      have HXS := Aside0.mk hxs
      clear hjoin HENC hxs hlt hi
      by_cases hbig : 1048576 < xs.length
      · have e : encV xs = ([], 5) := by unfold encV; rw [if_pos hbig]
        rw [HXS.out] at e
        have HE := Aside0.mk e
        clear e
        go_wp2
        go_ret2
        rw [HE.out]
        exact ⟨none, 0, rfl, by simp, ⟨rfl, by simp, fun h => absurd h (by simp)⟩, Below.refl _ _, Fresh.nil _ _ _⟩
      · have e : encV xs = (encF xs, 0) := by unfold encV; rw [if_neg hbig]
        have HE : Aside0 (encV ls.flatten = (encF xs, 0)) := ⟨by rw [← HXS.out]; exact e⟩
        clear e
        go_wp2_with fail
        refine (head_calls xs.length _).mono ?_
        rintro e w1 ⟨A1, c1, rfl, hc1, hC1, hb1⟩
        have k2 := HJ.out w1 hb1
        have K2 := Aside0.mk k2
        have HC1 := Aside0.mk hC1
        have HB1 := Aside0.mk hb1
        clear k2 hC1 hb1
        go_wp2_with fail
        refine K2.out.mono ?_
        rintro e w2 ⟨A2, c2, rfl, hc2, hC2, hb2⟩
        have k3 := join2 A1 A2 c1 c2 (headF xs.length) xs w2 (Kd.C_below HC1.out hb2) hc1 hC2 hc2 (headF_bytes _) HFB.out (by simp [headF_len]; omega)
        obtain ⟨p, hp⟩ : ∃ p, p = headF xs.length ++ xs := ⟨_, rfl⟩
        have hpb : Bytes p := by rw [hp]; exact bytes_app (headF_bytes _) HFB.out
        have hpl : (headF xs.length).length + xs.length = p.length := by rw [hp, List.length_append]
        have hpl2 : p.length ≤ 1048600 := by rw [← hpl, headF_len]; omega
        rw [← hp, hpl] at k3
        have K3 := Aside0.mk k3
        have HP := Aside0.mk hp
        have HPB := Aside0.mk hpb
        have HB2 := Aside0.mk (HB1.out.trans (hb2.mono HB1.out.size))
        clear k3 hp hpb hpl hC2 hb2 K2
        go_wp2_with fail
        refine K3.out.mono ?_
        rintro e w3 ⟨A3, c3, rfl, hc3, hC3, hb3, _⟩
        have k4 := sum1 A3 c3 p w3 hC3 HPB.out
        obtain ⟨sm, hsm⟩ : ∃ sm, sm = sumL p := ⟨_, rfl⟩
        rw [← hsm] at k4
        have K4 := Aside0.mk k4
        have HSM := Aside0.mk hsm
        have HC3 := Aside0.mk hC3
        have HB3 := Aside0.mk (HB2.out.trans (hb3.mono HB2.out.size))
        clear k4 hsm hC3 hb3 K3
        go_wp2_with fail
        refine K4.out.mono ?_
        rintro e w4 ⟨rfl, rfl⟩
        go_wp2_with fail
        refine (four_at sm _).mono ?_
        rintro e w5 ⟨A5, c5, rfl, hc5, hC5, hb5⟩
        have hb5' : Below w3.heap.size w3 w5 := ((Below.refl _ _).alloc (Nat.le_refl _) _).trans (hb5.mono (by simp))
        have k6 := join2 A3 A5 c3 c5 p (fourF sm) w5 (Kd.C_below HC3.out hb5') hc3 hC5 hc5 HPB.out (fourF_bytes _) (by simp [fourF]; omega)
        have hel : p ++ fourF sm = encF xs := by rw [HSM.out, HP.out]; rfl
        have hell : p.length + (fourF sm).length = (encF xs).length := by rw [← List.length_append, hel]
        rw [hel, hell] at k6
        obtain ⟨y, hy⟩ : ∃ y, y = encF xs := ⟨_, rfl⟩
        rw [← hy] at k6 HE
        have K6 := Aside0.mk k6
        have HB5 := Aside0.mk (HB3.out.trans (hb5'.mono HB3.out.size))
        clear k6 hb5 hb5' hC5 hel hell hy
        go_wp2_with fail
        refine K6.out.mono ?_
        rintro e w6 ⟨A6, c6, rfl, hc6, hC6, hb6, hF6⟩
        go_wp2
        go_ret2
        rw [HE.out]
        exact ⟨A6, c6, rfl, hc6, hC6, HB5.out.trans (hb6.mono HB5.out.size), hF6.older HB5.out.size⟩
end Go.Proofs.Ytdepjlnljkbfjaa.Hand

/- frame.Decode, frame.One: the walks. -/
namespace Go.Proofs.Ytdepjlnljkbfjaa.Hand
open Go.RowKit Go.Proofs.Ytdepjlnljkbfjaa.PA Go.Proofs.Ytdepjlnljkbfjaa.MapP Go.Proofs.YtdepjlnljkbfjaaW.PrintWords Go.Proofs.YtdepjlnljkbfjaaW.PrintLast Go.Proofs.YtdepjlnljkbfjaaW.PrintMore
attribute [local go_sem] max2_int min2_int
set_option linter.unusedVariables false
set_option linter.unusedSimpArgs false
set_option linter.unusedSectionVars false
theorem bdrew_of {w w' : World} (h : Below w.drew.heap.size w.drew w') : Below w.heap.size w w' := (bdrew (Below.refl _ _)).trans h
theorem C_take' {w : World} {A : Option Addr} {l : List Int} {m : Nat} (h : Kd.C (Kd.int .u8) w A l.length l) (hm : m ≤ l.length) : Kd.C (Kd.int .u8) w A m (l.take m) := by
  have h2 := Kd.C_take h hm
  rw [List.length_take, Nat.min_eq_left hm] at h2
  exact h2
theorem plain_at {w : World} {ad : Addr} {l : List Int} (h : Kd.C (Kd.int .u8) w (some ad) l.length l) (hp : 0 < l.length) : ∃ g o, ad = ⟨g, o, none⟩ := by
  obtain ⟨ad2, e, hc⟩ := Kd.at_int h 0 (by omega) (by omega)
  injection e with e
  subst e
  obtain ⟨g, o, sp⟩ := ad
  obtain rfl := sub_none hc
  exact ⟨g, o, rfl⟩
theorem C_cell8 {w : World} {g o n : Nat} {l : List Int} (h : Kd.C (Kd.int .u8) w (some ⟨g, o, none⟩) n l) (i : Nat) (hi : i < n) : w.cell? ⟨g, o + i, none⟩ = some (.int .u8 (l.getD i 0)) := by
  obtain ⟨ad, e, hc⟩ := Kd.at_int h (i : Int) (by omega) (by omega)
  injection e with e
  subst e
  rw [Addr.add_lit] at hc
  simpa [rd] using hc
theorem C_drop' {w : World} {g o : Nat} {l : List Int} {m : Nat} (h : Kd.C (Kd.int .u8) w (some ⟨g, o, none⟩) l.length l) (hm : m ≤ l.length) : Kd.C (Kd.int .u8) w (some ⟨g, o + m, none⟩) (l.length - m) (l.drop m) := by
  refine Kd.C_of_reads (d := (0 : Int)) (h1 := fun _ => rfl) ⟨by simp, by have := h.2.1; omega, fun hp => ⟨_, rfl, fun j hj => ?_⟩⟩
  rw [Addr.add_lit, Nat.add_assoc, C_cell8 h (m + j) (by omega)]
  simp
theorem C_len {w : World} {A : Option Addr} {n : Nat} {l : List Int} (h : Kd.C (Kd.int .u8) w A n l) : l.length = n := h.1
theorem conv_l {w : World} {A : Option Addr} {n c : Nat} {l : List Int} (h : Kd.C (Kd.int .u8) w A n l) (hp : 0 < n) : (convert 23 9 (.slice A n c)).run Try.prog w = .ok (.string (strOfNums l)) w := by
  have hn := C_len h
  subst hn
  obtain ⟨ad, e, _⟩ := h.2.2 hp
  subst e
  obtain ⟨g, o, rfl⟩ := plain_at h hp
  exact run_convert_bytes_arg (P := Try.prog) w 23 5 Try.underlying23 Try.underlying5 g o l.length c l rfl (fun i hi => C_cell8 h i hi) 9 Try.underlying9
theorem eq_calls (A B : Option Addr) (n m c d : Nat) (xs ys : List Int) (w : World) (hA : Kd.C (Kd.int .u8) w A n xs) (hB : Kd.C (Kd.int .u8) w B m ys) (bx : Bytes xs) (by_ : Bytes ys) (hn : 0 < n := by omega) (hm : 0 < m := by omega) :
    Calls Try.prog 87 #[.slice A n c, .slice B m d] w fun e w' => e = .returned (.bool (decide (xs = ys))) ∧ w' = w := by
  have h := Try.bytes_Equal _ _ xs ys w (conv_l (c := c) hA hn) (conv_l (c := d) hB hm)
  have e : (Lib.bytesOf xs == Lib.bytesOf ys) = decide (xs = ys) := by
    rw [Bool.eq_iff_iff, beq_iff_eq, decide_eq_true_iff]
    exact ⟨fun h => b8_inj xs ys bx by_ h, fun h => by rw [h]⟩
  rw [e] at h
  exact h
theorem from_n (A : Option Addr) (n c : Nat) (l : List Int) (w : World) (hC : Kd.C (Kd.int .u8) w A n l) (hc : n ≤ c) (hl : 4 ≤ n) : Calls Try.prog 86 #[.slice A n c] w fun e w' => e = .returned (.int .u32 (fromV l)) ∧ Below w.heap.size w w' := by
  have hn := C_len hC
  subst hn
  exact from_at A c l w hC hc hl
theorem sum_n (A : Option Addr) (n c : Nat) (l : List Int) (w : World) (hC : Kd.C (Kd.int .u8) w A n l) (hb : Bytes l) :
    Calls Try.prog 70 #[.slice (some ⟨w.heap.size, 0, none⟩) 1 1] (w.alloc (.cells #[.slice A n c] 23)) fun e w' => e = .returned (.int .u32 (sumL l)) ∧ w' = w.alloc (.cells #[.slice A n c] 23) := by
  have hn := C_len hC
  subst hn
  exact sum1 A c l w hC hb
theorem clone_n (A : Option Addr) (n c : Nat) (l : List Int) (w : World) (hC : Kd.C (Kd.int .u8) w A n l) (hl : n ≤ 140737488355328) :
    Calls Try.prog 43 #[.slice A n c] w fun e w' => ∃ A' c', e = .returned (.slice A' l.length c') ∧ l.length ≤ c' ∧ Kd.C (Kd.int .u8) w' A' l.length l ∧ Below w.heap.size w w' := by
  have hn := C_len hC
  subst hn
  refine (clone_calls A c l w hC hl).mono ?_
  rintro e w' ⟨v, rfl, hR, hb⟩
  obtain ⟨A', c', rfl, h1, h2⟩ := Kd.R_reads hR
  exact ⟨A', c', rfl, h1, h2, hb⟩
set_option maxRecDepth 100000 in
set_option maxHeartbeats 4000000 in
theorem dec_calls (A : Option Addr) (c : Nat) (l : List Int) (w : World) (hC : Kd.C (Kd.int .u8) w A l.length l) (hc : l.length ≤ c) (hb : Bytes l) (hl : l.length ≤ 140737488355328) :
    Calls Try.prog 74 #[.slice A l.length c] w fun e w' => ∃ A' c', e = .returned (.tuple #[.slice A' (decV l).1.length c', .int .i64 (decV l).2.1, .int .i64 (decV l).2.2]) ∧ (decV l).1.length ≤ c' ∧ Kd.C (Kd.int .u8) w' A' (decV l).1.length (decV l).1 ∧ Below w.heap.size w w' := by
  have HC := Aside0.mk hC
  have HBY := Aside0.mk hb
  have hnil : ∀ W, Kd.C (Kd.int .u8) W none ([] : List Int).length [] := fun W => ⟨rfl, by simp, fun h => absurd h (by simp)⟩
  have HNIL := Aside0.mk hnil
  clear hC hb hnil
  by_cases h8 : l.length < 8
  · have e : decV l = ([], 0, 2) := by unfold decV; rw [if_pos h8]
    have HE := Aside0.mk e
    clear e
    go_enter Try.func74, Try.ntmps74
    go_wp2
    exact bodyPost_ret (v := .tuple #[.slice none 0 0, .int .i64 0, .int .i64 2]) (by simp [results, Try.results74, go_sem]) rfl (by rw [HE.out]; exact ⟨none, 0, rfl, Nat.le_refl _, HNIL.out _, Below.refl _ _⟩)
  · have hg8 : 8 ≤ l.length := by omega
    obtain ⟨ad, rfl, _⟩ := HC.out.2.2 (by omega)
    obtain ⟨g, o, rfl⟩ := plain_at HC.out (by omega)
    have H8 := Aside0.mk hg8
    have h8c : (8 : Int) ≤ c := by omega
    go_enter Try.func74, Try.ntmps74
    go_wp2_with fail
    refine (from_n _ _ _ l _ HC.out hc (by omega)).mono ?_
    rintro e w1 ⟨rfl, hb1⟩
    have hfr := fromV_range l
    obtain ⟨k, hk⟩ : ∃ k : Nat, fromV l = k := ⟨(fromV l).toNat, by omega⟩
    rw [hk] at hfr ⊢
    have hkr : k < 4294967296 := by omega
    have HK := Aside0.mk hk
    have HC1 : Aside0 (Kd.C (Kd.int .u8) w1.drew (some ⟨g, o, none⟩) l.length l) := ⟨Kd.C_drew (Kd.C_below HC.out hb1)⟩
    have HB1 := Aside0.mk hb1
    obtain ⟨q, hq⟩ : ∃ q : Bool, q = decide (l.take 8 = headF k) := ⟨_, rfl⟩
    have HQ := Aside0.mk hq
    clear hq hk hb1 hfr
    go_wp2
    refine start_ (n := 7) (S := fun w' => True) (ds := []) #[false, false, false, false, false, false, false] (by kernel_rfl) rfl rfl trivial (fun hHeld => ?_)
    refine pure_ (i := 0) (N := some 13) (v := ?_) (a' := ?_) #[true, false, false, false, false, false, false] rfl rfl (by kernel_rfl) (fun _ _ _ h => h) (Or.inl ⟨by rfl, ?_⟩) ?_ ?_
    rotate_left
    · intro w'
      go_simp
      with_reducible rfl
    rotate_left
    · simp only [Act.put, List.setIfInBounds_toArray, List.set_cons_zero, List.set_cons_succ, i64_w, i32_w]
      rfl
    refine pure_ (i := 1) (N := some 14) (v := ?_) (a' := ?_) #[true, true, false, false, false, false, false] rfl rfl (by kernel_rfl) (fun _ _ _ h => h) (Or.inl ⟨by rfl, ?_⟩) ?_ ?_
    rotate_left
    · intro w'
      go_simp
      with_reducible rfl
    rotate_left
    · simp only [Act.put, List.setIfInBounds_toArray, List.set_cons_zero, List.set_cons_succ, i64_w, i32_w]
      rfl
    refine pure_ (i := 2) (N := some 15) (v := ?_) (a' := ?_) #[true, true, true, false, false, false, false] rfl rfl (by kernel_rfl) (fun _ _ _ h => h) (Or.inl ⟨by rfl, ?_⟩) ?_ ?_
    rotate_left
    · intro w'
      go_simp
      with_reducible rfl
    rotate_left
    · simp only [Act.put, List.setIfInBounds_toArray, List.set_cons_zero, List.set_cons_succ, i64_w, i32_w]
      rfl
    refine one_ (i := 3) (N := some 16) #[true, true, true, true, false, false, false] rfl rfl (by kernel_rfl) (by decide) (fun K hK => ?_)
    refine goes_ Try.func68 (by kernel_rfl) rfl #[.int .u32 k] (by rfl) rfl rfl (by simp only [List.map_toArray, List.map_cons, List.map_nil]; rfl) ?_
    with_reducible refine (head_calls k _).mono ?_
    rintro e w2 ⟨A2, c2, rfl, hc2, hC2, hb2⟩
    refine ⟨_, rfl, ?_⟩
    have HC2 := Aside0.mk hC2
    have HB2d := Aside0.mk hb2
    have HB2 := Aside0.mk (bdrew_of hb2)
    clear hC2 hb2
    refine hK.out _ _ trivial (fun hHeld => ?_)
    clear hK K
    refine norm_ (a' := ?_) ?_ ?_
    rotate_left
    · show Act.put _ (some 16) _ = _
      simp only [Act.put, List.setIfInBounds_toArray, List.set_cons_zero, List.set_cons_succ, i64_w, i32_w]
      rfl
    refine one_ (i := 4) (N := some 17) #[true, true, true, true, true, false, false] rfl rfl (by kernel_rfl) (by decide) (fun K hK => ?_)
    have k5 := eq_calls (some ⟨g, o, none⟩) A2 8 8 c c2 (l.take 8) (headF k) w2 (Kd.C_below (C_take' HC1.out H8.out) HB2d.out) HC2.out (bytes_take HBY.out 8) (headF_bytes k)
    rw [← HQ.out] at k5
    have K5 := Aside0.mk k5
    clear k5
    refine goes_ Try.func87 (by kernel_rfl) rfl #[.slice (some ⟨g, o, none⟩) 8 c, .slice A2 8 c2] (by rfl) rfl rfl (by simp only [List.map_toArray, List.map_cons, List.map_nil]; rfl) ?_
    with_reducible refine (K5.out).mono ?_
    rintro e w3 ⟨rfl, rfl⟩
    refine ⟨_, rfl, ?_⟩
    refine hK.out _ _ trivial (fun hHeld => ?_)
    clear hK K
    refine norm_ (a' := ?_) ?_ ?_
    rotate_left
    · show Act.put _ (some 17) _ = _
      simp only [Act.put, List.setIfInBounds_toArray, List.set_cons_zero, List.set_cons_succ, i64_w, i32_w]
      rfl
    refine pure_ (i := 5) (N := some 18) (v := ?_) (a' := ?_) #[true, true, true, true, true, true, false] rfl rfl (by kernel_rfl) (fun _ _ _ h => h) (Or.inl ⟨by rfl, ?_⟩) ?_ ?_
    rotate_left
    · intro w'
      go_simp
      with_reducible rfl
    rotate_left
    · simp only [Act.put, List.setIfInBounds_toArray, List.set_cons_zero, List.set_cons_succ, i64_w, i32_w]
      rfl
    refine pure_ (i := 6) (N := some 12) (v := ?_) (a' := ?_) #[true, true, true, true, true, true, true] rfl rfl (by kernel_rfl) (fun _ _ _ h => h) (Or.inl ⟨by rfl, ?_⟩) ?_ ?_
    rotate_left
    · intro w'
      go_simp
      with_reducible rfl
    rotate_left
    · simp only [Act.put, List.setIfInBounds_toArray, List.set_cons_zero, List.set_cons_succ, i64_w, i32_w]
      rfl
    refine done_ (by kernel_rfl) ?_


    clear hHeld
    have HB3 := Aside0.mk (HB1.out.trans (HB2.out.mono HB1.out.size))
    have HC3 := Aside0.mk (Kd.C_below HC.out HB3.out)
    cases q
    · have e : decV l = ([], 0, 4) := by unfold decV; rw [if_neg h8, HK.out, if_pos (of_decide_eq_false HQ.out.symm)]
      have HE := Aside0.mk e
      clear e
      go_wp2
      exact bodyPost_ret (v := .tuple #[.slice none 0 0, .int .i64 0, .int .i64 4]) (by simp [results, Try.results74, go_sem]) rfl (by rw [HE.out]; exact ⟨none, 0, rfl, Nat.le_refl _, HNIL.out _, HB3.out⟩)
    · have HQ1 : Aside0 (l.take 8 = headF k) := ⟨of_decide_eq_true HQ.out.symm⟩
      by_cases hbig : 1048576 < k
      · have e : decV l = ([], 0, 5) := by unfold decV; rw [if_neg h8, HK.out, if_neg (by rw [HQ1.out]; simp), if_pos (by omega)]
        have HE := Aside0.mk e
        clear e
        go_wp2
        exact bodyPost_ret (v := .tuple #[.slice none 0 0, .int .i64 0, .int .i64 5]) (by simp [results, Try.results74, go_sem]) rfl (by rw [HE.out]; exact ⟨none, 0, rfl, Nat.le_refl _, HNIL.out _, HB3.out⟩)
      · by_cases hsh : (l.length : Int) - 12 < k
        · have e : decV l = ([], 0, 2) := by unfold decV; rw [if_neg h8, HK.out, if_neg (by rw [HQ1.out]; simp), if_neg (by omega), if_pos (by omega)]
          have HE := Aside0.mk e
          clear e
          have hs2 : (l.length : Int) - 8 - 4 < k := by omega
          go_wp2
          exact bodyPost_ret (v := .tuple #[.slice none 0 0, .int .i64 0, .int .i64 2]) (by simp [results, Try.results74, go_sem]) rfl (by rw [HE.out]; exact ⟨none, 0, rfl, Nat.le_refl _, HNIL.out _, HB3.out⟩)
        · have hs2 : ¬ (l.length : Int) - 8 - 4 < k := by omega
          have hge : k + 12 ≤ l.length := by omega
          have hdv : decV l = if fromV (l.drop (8 + k)) ≠ sumL (l.take (8 + k)) then ([], 0, 4) else ((l.take (8 + k)).drop 8, (k : Int) + 12, 0) := by
            unfold decV
            rw [if_neg h8, HK.out, if_neg (by rw [HQ1.out]; simp), if_neg (by omega), if_neg (by omega)]
            rfl
          have HDV := Aside0.mk hdv
          obtain ⟨fv, hfv⟩ : ∃ fv, fv = fromV (l.drop (8 + k)) := ⟨_, rfl⟩
          obtain ⟨sm, hsm⟩ : ∃ sm, sm = sumL (l.take (8 + k)) := ⟨_, rfl⟩
          have k6 := from_n (some ⟨g, o + (8 + k), none⟩) (l.length - (8 + k)) (c - (8 + k)) (l.drop (8 + k)) _ (C_drop' HC3.out (by omega)) (by omega) (by omega)
          rw [← hfv] at k6
          rw [← hfv, ← hsm] at HDV
          have K6 := Aside0.mk k6
          have HSM := Aside0.mk hsm
          clear hdv hfv k6 hsm
          go_wp2_with fail
          refine K6.out.mono ?_
          rintro e w4 ⟨rfl, hb4⟩
          obtain ⟨l2, hl2⟩ : ∃ l2, l2 = l.take (8 + k) := ⟨_, rfl⟩
          have hl2l : l2.length = 8 + k := by rw [hl2, List.length_take]; omega
          have hC4 : Kd.C (Kd.int .u8) w4 (some ⟨g, o, none⟩) (8 + k) l2 := by rw [hl2]; exact C_take' (Kd.C_below HC3.out hb4) (by omega)
          rw [← hl2] at HSM HDV
          have hl2b : Bytes l2 := by rw [hl2]; exact bytes_take HBY.out _
          have k7 := sum_n (some ⟨g, o, none⟩) (8 + k) c l2 w4 hC4 hl2b
          rw [← HSM.out] at k7
          have K7 := Aside0.mk k7
          have HB4 := Aside0.mk (HB3.out.trans (hb4.mono HB3.out.size))
          have HC4 := Aside0.mk hC4
          have HL2L := Aside0.mk hl2l
          clear hl2 hl2l hC4 hl2b k7 hb4 K6
          go_wp2_with fail
          refine K7.out.mono ?_
          rintro e w5 ⟨rfl, rfl⟩
          by_cases hne : fv = sm
          · have hE : decV l = (l2.drop 8, 8 + (k : Int) + 4, 0) := by rw [HDV.out, if_neg (by rw [hne]; simp), show (k : Int) + 12 = 8 + (k : Int) + 4 from by omega]
            obtain ⟨l3, hl3⟩ : ∃ l3, l3 = l2.drop 8 := ⟨_, rfl⟩
            have hl3l : l3.length = k := by rw [hl3, List.length_drop, HL2L.out]; omega
            rw [← hl3] at hE
            have hC5 : Kd.C (Kd.int .u8) (w4.alloc (.cells #[.slice (some ⟨g, o, none⟩) (8 + k) c] 23)) (some ⟨g, o + 8, none⟩) k l3 := by
              have h := HC4.out
              rw [← HL2L.out] at h
              have h2 := Kd.C_alloc (C_drop' h (m := 8) (by rw [HL2L.out]; omega)) (.cells #[.slice (some ⟨g, o, none⟩) (8 + k) c] 23)
              rw [HL2L.out, show 8 + k - 8 = k from by omega] at h2
              rw [hl3]
              exact h2
            have k8 := clone_n (some ⟨g, o + 8, none⟩) k (c - 8) l3 _ hC5 (by omega)
            have K8 := Aside0.mk k8
            have HE := Aside0.mk hE
            have HB5 := Aside0.mk (HB4.out.alloc HB4.out.size (.cells #[.slice (some ⟨g, o, none⟩) (8 + k) c] 23))
            have hnb : (fv != sm) = false := by rw [hne]; simp
            have h88 : 8 + k - 8 = k := by omega
            clear hE k8 hC5 hl3 hl3l hne
            go_wp2_with fail
            refine K8.out.mono ?_
            rintro e w6 ⟨A6, c6, rfl, hc6, hC6, hb6⟩
            go_wp2
            exact bodyPost_ret (v := .tuple #[.slice A6 l3.length c6, .int .i64 (8 + (k : Int) + 4), .int .i64 0]) (by simp [results, Try.results74, go_sem]) rfl (by rw [HE.out]; exact ⟨A6, c6, rfl, hc6, hC6, HB5.out.trans (hb6.mono HB5.out.size)⟩)
          · have hE : decV l = ([], 0, 4) := by rw [HDV.out, if_pos hne]
            have HE := Aside0.mk hE
            have HB5 := Aside0.mk (HB4.out.alloc HB4.out.size (.cells #[.slice (some ⟨g, o, none⟩) (8 + k) c] 23))
            have hnb : (fv != sm) = true := by simpa using hne
            clear hE
            go_wp2
            exact bodyPost_ret (v := .tuple #[.slice none 0 0, .int .i64 0, .int .i64 4]) (by simp [results, Try.results74, go_sem]) rfl (by rw [HE.out]; exact ⟨none, 0, rfl, Nat.le_refl _, HNIL.out _, HB5.out⟩)
set_option maxRecDepth 100000 in
set_option maxHeartbeats 2000000 in
theorem one_calls (A : Option Addr) (c : Nat) (l : List Int) (w : World) (hC : Kd.C (Kd.int .u8) w A l.length l) (hc : l.length ≤ c) (hb : Bytes l) (hl : l.length ≤ 140737488355328) :
    Calls Try.prog 41 #[.slice A l.length c] w fun e w' => ∃ A' c', e = .returned (.tuple #[.slice A' (oneF l).1.length c', .int .i64 (oneF l).2]) ∧ (oneF l).1.length ≤ c' ∧ Kd.C (Kd.int .u8) w' A' (oneF l).1.length (oneF l).1 ∧ Below w.heap.size w w' := by
  have K := Aside0.mk (dec_calls A c l w hC hc hb hl)
  obtain ⟨p, hp⟩ : ∃ p, p = (decV l).1 := ⟨_, rfl⟩
  obtain ⟨n, hn⟩ : ∃ n, n = (decV l).2.1 := ⟨_, rfl⟩
  obtain ⟨e, he⟩ : ∃ e, e = (decV l).2.2 := ⟨_, rfl⟩
  have ho : oneF l = if e = 0 ∧ n ≠ l.length then ([], 3) else (p, e) := by unfold oneF; rw [← hp, ← hn, ← he]
  rw [← hp, ← hn, ← he] at K
  have HO := Aside0.mk ho
  clear hp hn he ho hC hb
  go_enter Try.func41, Try.ntmps41
  go_wp2_with fail
  refine K.out.mono ?_
  rintro e w1 ⟨A1, c1, rfl, hc1, hC1, hb1⟩
  have HC1 := Aside0.mk hC1
  have HB1 := Aside0.mk hb1
  clear hC1 hb1
  by_cases h0 : e = 0
  · subst h0
    by_cases hne : n = (l.length : Int)
    · have HE : Aside0 (oneF l = (p, 0)) := ⟨by rw [HO.out, if_neg (by rw [hne]; simp)]⟩
      have hnb : (n != (l.length : Int)) = false := by rw [hne]; simp
      clear hne
      go_wp2
      go_ret2
      rw [HE.out]
      exact ⟨A1, c1, rfl, hc1, HC1.out, HB1.out⟩
    · have HE : Aside0 (oneF l = ([], 3)) := ⟨by rw [HO.out, if_pos ⟨rfl, hne⟩]⟩
      have hnb : (n != (l.length : Int)) = true := by simpa using hne
      clear hne
      go_wp2
      go_ret2
      rw [HE.out]
      exact ⟨none, 0, rfl, by simp, ⟨rfl, by simp, fun h => absurd h (by simp)⟩, HB1.out⟩
  · have HE : Aside0 (oneF l = (p, e)) := ⟨by rw [HO.out, if_neg (fun h => h0 h.1)]⟩
    have hnb : (e == 0) = false := by simpa using h0
    go_wp2
    go_ret2
    rw [HE.out]
    exact ⟨A1, c1, rfl, hc1, HC1.out, HB1.out⟩
end Go.Proofs.Ytdepjlnljkbfjaa.Hand
