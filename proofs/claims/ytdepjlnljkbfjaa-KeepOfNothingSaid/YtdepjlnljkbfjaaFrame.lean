/- frame and octet: records, their check sums. -/
import Derived.Test.YtdepjlnljkbfjaaBase
import Derived.Laws.BytesArg
import Derived.Laws.BitsLemmas
namespace Go.Proofs.Ytdepjlnljkbfjaa.Hand
open Go.RowKit Go.Proofs.Ytdepjlnljkbfjaa.PA Go.Proofs.Ytdepjlnljkbfjaa.MapP Go.Proofs.YtdepjlnljkbfjaaW.PrintWords Go.Proofs.YtdepjlnljkbfjaaW.PrintLast Go.Proofs.YtdepjlnljkbfjaaW.PrintMore
attribute [local go_sem] max2_int min2_int
set_option linter.unusedVariables false
set_option linter.unusedSimpArgs false
set_option linter.unusedSectionVars false
/-- A byte taken into a check sum: eight turns. -/
def turnC (v : Int) : Int := Go.bits BinOp.xor IntKind.u32 (v / 2) (Go.bits BinOp.and IntKind.u32 3988292384 (-Go.bits BinOp.and IntKind.u32 v 1 % 4294967296))
def turnsC : Nat → Int → Int
  | 0, v => v
  | k + 1, v => turnC (turnsC k v)
def byteC (v b : Int) : Int := turnsC 8 (Go.bits BinOp.xor IntKind.u32 v (b % 4294967296))
def rowC (l : List Int) : Int := l.foldl byteC 4294967295
/-- The check sum of a row. -/
def sumL (l : List Int) : Int := Go.bits BinOp.xor IntKind.u32 IntKind.u32.max (rowC l)
set_option maxRecDepth 100000 in
set_option maxHeartbeats 2000000 in
theorem sum_calls (a : Addr) (A : Option Addr) (c : Nat) (l : List Int) (w : World) (hrow : w.cell? a = some (.slice A l.length c)) (hC : Kd.C (Kd.int .u8) w A l.length l) (hb : Bytes l) :
    Calls Try.prog 70 #[.slice (some a) 1 1] w fun e w' => e = .returned (.int .u32 (sumL l)) ∧ w' = w := by
  have HC := Aside0.mk hC
  have hll : l.length ≤ 9223372036854775807 := hC.2.1
  clear hC
  go_enter Try.func70, Try.ntmps70
  go_wp2
  go_loopw [3, 10] (fun s3 s10 wr => ∃ (i : Nat), i ≤ 1 ∧ s10 = .int .i64 i ∧ s3 = .int .u32 (if i = 0 then 4294967295 else rowC l) ∧ wr = w) (fun _ s10 _ => 1 - (intOf s10).toNat)
  case atStart => exact ⟨0, by omega, rfl, rfl, rfl⟩
  case round =>
    obtain ⟨i, hi, rfl, rfl, rfl⟩ := hrel
    by_cases h0 : i = 0
    · subst h0
      go_wp2
      go_loopw [3, 16] (fun s3 s16 wq => ∃ (j : Nat), j ≤ l.length ∧ s16 = .int .i64 j ∧ s3 = .int .u32 (rowC (l.take j)) ∧ wq = wr) (fun _ s16 _ => l.length - (intOf s16).toNat)
      case atStart => exact ⟨0, by omega, rfl, rfl, rfl⟩
      case round =>
        obtain ⟨j, hj, rfl, rfl, rfl⟩ := hrel
        by_cases hlt : j < l.length
        · obtain ⟨ad, rfl, hc⟩ := Kd.at_int HC.out (j : Int) (by omega) (by omega)
          simp only [Int.toNat_natCast] at hc
          obtain ⟨v0, hv0⟩ : ∃ v, v = rowC (l.take j) := ⟨_, rfl⟩
          obtain ⟨b, hbb⟩ : ∃ b, b = rd l (j : Int) := ⟨_, rfl⟩
          rw [← hv0]
          rw [← hbb] at hc
          have HV0 := Aside0.mk hv0
          have HBB := Aside0.mk hbb
          clear hbb hv0
          go_wp2
          obtain ⟨v1, hv1⟩ : ∃ v, v = Go.bits BinOp.xor IntKind.u32 v0 (b % 4294967296) := ⟨_, rfl⟩
          have HV1 := Aside0.mk hv1
          rw [← hv1]
          clear hv1
          go_loopw [3, 24] (fun s3 s24 wq => ∃ (k : Nat) (v : Int), k ≤ 8 ∧ s24 = .int .i64 k ∧ s3 = .int .u32 v ∧ Aside0 (v = turnsC k v1) ∧ wq = wr) (fun _ s24 _ => 8 - (intOf s24).toNat)
          case atStart => exact ⟨0, v1, by omega, rfl, rfl, ⟨rfl⟩, rfl⟩
          case round =>
            obtain ⟨k, v, hk, rfl, rfl, HV, rfl⟩ := hrel
            by_cases hlk : k < 8
            · go_wp2
              go_roundw
              case measure => simp [intOf]; omega
              case rel => exact ⟨k + 1, _, by omega, by go_num, rfl, ⟨by rw [HV.out]; rfl⟩, by first | rfl | trivial⟩
            · obtain rfl : k = 8 := by omega
              have hve : rowC (l.take (j + 1)) = v := by
                rw [List.take_succ_eq_append_getElem hlt, rowC, List.foldl_append, List.foldl_cons, List.foldl_nil, HV.out, HV1.out, HV0.out, HBB.out]
                simp [byteC, rd, rowC, List.getD_eq_getElem?_getD, hlt]
              have HVE := Aside0.mk hve
              clear hve
              go_wp2
              go_roundw
              case measure => simp [intOf]; omega
              case rel => exact ⟨j + 1, by omega, by go_num, by rw [HVE.out], by first | rfl | trivial⟩
        · obtain rfl : j = l.length := by omega
          rw [List.take_length]
          go_wp2
          go_roundw
          case measure => simp [intOf]
          case rel => exact ⟨1, by omega, by first | rfl | go_num, rfl, by first | rfl | trivial⟩
    · obtain rfl : i = 1 := by omega
      rw [if_neg h0]
      go_wp2
      all_goals first | exact absurd (by assumption : IntKind.u32.signed = true) (by decide) | (go_ret; exact ⟨rfl, rfl⟩)
theorem u32_range (op : BinOp) (x y : Int) : 0 ≤ Go.bits op .u32 x y ∧ Go.bits op .u32 x y < 4294967296 := by
  have h : ∀ n : Int, 0 ≤ IntKind.u32.wrap n ∧ IntKind.u32.wrap n < 4294967296 := fun n => by rw [IntKind.wrap_u32]; omega
  unfold Go.bits
  split <;> exact h _
theorem sumL_range (l : List Int) : 0 ≤ sumL l ∧ sumL l < 4294967296 := u32_range _ _ _
def fourF (v : Int) : List Int := [v % 256, v / 256 % 256, v / 65536 % 256, v / 16777216 % 256]
def fromV (l : List Int) : Int := Go.bits .or .u32 (Go.bits .or .u32 (Go.bits .or .u32 ((rd l 0) % 4294967296) ((((rd l 1) % 4294967296) * 256) % 4294967296)) ((((rd l 2) % 4294967296) * 65536) % 4294967296)) ((((rd l 3) % 4294967296) * 16777216) % 4294967296)
theorem fromV_range (l : List Int) : 0 ≤ fromV l ∧ fromV l < 4294967296 := u32_range _ _ _
theorem or_add (i : Nat) (x y : Int) (hx : x % 2 ^ i = 0) (hx0 : 0 ≤ x) (hx1 : x < 4294967296) (hy0 : 0 ≤ y) (hy : y < 2 ^ i) (hy1 : y < 4294967296) : Go.bits .or .u32 y x = x + y := by
  have h := bits_join .u32 32 (by decide) (fun n h0 h1 => by rw [IntKind.wrap_u32]; omega) i x y hx0 hx hx1 hy0 hy hy1
  rw [← h]
  unfold Go.bits
  simp only
  rw [BitVec.or_comm]
theorem from_four (v : Int) (h0 : 0 ≤ v) (h1 : v < 4294967296) (rest : List Int) : fromV (fourF v ++ rest) = v := by
  have r0 : rd (fourF v ++ rest) 0 = v % 256 := rfl
  have r1 : rd (fourF v ++ rest) 1 = v / 256 % 256 := rfl
  have r2 : rd (fourF v ++ rest) 2 = v / 65536 % 256 := rfl
  have r3 : rd (fourF v ++ rest) 3 = v / 16777216 % 256 := rfl
  unfold fromV
  rw [r0, r1, r2, r3]
  rw [or_add 8 (v / 256 % 256 % 4294967296 * 256 % 4294967296) (v % 256 % 4294967296) (by omega) (by omega) (by omega) (by omega) (by omega) (by omega)]
  rw [or_add 16 (v / 65536 % 256 % 4294967296 * 65536 % 4294967296) _ (by omega) (by omega) (by omega) (by omega) (by omega) (by omega)]
  rw [or_add 24 (v / 16777216 % 256 % 4294967296 * 16777216 % 4294967296) _ (by omega) (by omega) (by omega) (by omega) (by omega) (by omega)]
  omega
theorem fourF_bytes (v : Int) : Bytes (fourF v) := by
  intro z hz
  simp only [fourF, List.mem_cons, List.not_mem_nil, or_false] at hz
  rcases hz with rfl | rfl | rfl | rfl <;> omega
theorem bytes_app {a b : List Int} (ha : Bytes a) (hb : Bytes b) : Bytes (a ++ b) := fun z hz => (List.mem_append.1 hz).elim (ha z) (hb z)
def headF (n : Int) : List Int := fourF n ++ fourF (sumL (fourF n))
theorem headF_len (n : Int) : (headF n).length = 8 := rfl
theorem headF_bytes (n : Int) : Bytes (headF n) := bytes_app (fourF_bytes _) (fourF_bytes _)
/-- A record. -/
def encF (xs : List Int) : List Int := (headF xs.length ++ xs) ++ fourF (sumL (headF xs.length ++ xs))
theorem encF_len (xs : List Int) : (encF xs).length = xs.length + 12 := by unfold encF; simp [headF_len, fourF]; omega
theorem encF_bytes {xs : List Int} (h : Bytes xs) : Bytes (encF xs) := bytes_app (bytes_app (headF_bytes _) h) (fourF_bytes _)
/-- What Encode answers. -/
def encV (xs : List Int) : List Int × Int := if 1048576 < xs.length then ([], 5) else (encF xs, 0)
def decV (b : List Int) : List Int × Int × Int :=
  if b.length < 8 then ([], 0, 2)
  else if b.take 8 ≠ headF (fromV b) then ([], 0, 4)
  else if 1048576 < fromV b then ([], 0, 5)
  else if (b.length : Int) - 12 < fromV b then ([], 0, 2)
  else if fromV (b.drop (8 + (fromV b).toNat)) ≠ sumL (b.take (8 + (fromV b).toNat)) then ([], 0, 4)
  else ((b.take (8 + (fromV b).toNat)).drop 8, fromV b + 12, 0)
def oneF (b : List Int) : List Int × Int := if (decV b).2.2 = 0 ∧ (decV b).2.1 ≠ b.length then ([], 3) else ((decV b).1, (decV b).2.2)
theorem decV_enc (xs rest : List Int) (h : xs.length ≤ 1048576) : decV (encF xs ++ rest) = (xs, (xs.length : Int) + 12, 0) := by
  have e1 : encF xs ++ rest = fourF xs.length ++ (fourF (sumL (fourF xs.length)) ++ (xs ++ (fourF (sumL (headF xs.length ++ xs)) ++ rest))) := by unfold encF headF; simp only [List.append_assoc]
  have e2 : encF xs ++ rest = headF xs.length ++ (xs ++ (fourF (sumL (headF xs.length ++ xs)) ++ rest)) := by unfold encF; simp only [List.append_assoc]
  have e3 : encF xs ++ rest = (headF xs.length ++ xs) ++ (fourF (sumL (headF xs.length ++ xs)) ++ rest) := by unfold encF; simp only [List.append_assoc]
  have hf : fromV (encF xs ++ rest) = xs.length := by rw [e1]; exact from_four _ (by omega) (by omega) _
  have hl : (encF xs ++ rest).length = xs.length + 12 + rest.length := by rw [List.length_append, encF_len]
  have ht : (encF xs ++ rest).take 8 = headF xs.length := by rw [e2, List.take_left' (headF_len _)]
  have hn : 8 + ((xs.length : Int)).toNat = (headF xs.length ++ xs).length := by rw [List.length_append, headF_len]; omega
  unfold decV
  rw [hf, ht, if_neg (by omega), if_neg (by simp), if_neg (by omega), if_neg (by omega), hn]
  have ht2 : (encF xs ++ rest).take (headF xs.length ++ xs).length = headF xs.length ++ xs := by rw [e3, List.take_left]
  have hd2 : (encF xs ++ rest).drop (headF xs.length ++ xs).length = fourF (sumL (headF xs.length ++ xs)) ++ rest := by rw [e3, List.drop_left]
  rw [ht2, hd2, from_four _ (sumL_range _).1 (sumL_range _).2, if_neg (by simp), List.drop_left' (headF_len _)]
theorem oneF_enc (xs : List Int) (h : xs.length ≤ 1048576) : oneF (encF xs) = (xs, 0) := by
  have hd := decV_enc xs [] h
  rw [List.append_nil] at hd
  unfold oneF
  rw [hd, if_neg (by simp [encF_len])]
end Go.Proofs.Ytdepjlnljkbfjaa.Hand
