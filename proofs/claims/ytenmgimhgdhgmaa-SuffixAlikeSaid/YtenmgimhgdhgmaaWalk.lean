/- suffix.Array: its walk. -/
import Derived.Test.YtenmgimhgdhgmaaState
namespace Go.Proofs.Ytenmgimhgdhgmaa.Hand
open Go.RowKit Go.Proofs.Ytenmgimhgdhgmaa.PA Go.Proofs.Ytenmgimhgdhgmaa.Sfx Go.Proofs.Ytenmgimhgdhgmaa.Iter Go.Proofs.YtenmgimhgdhgmaaW.PrintWords Go.Proofs.YtenmgimhgdhgmaaW.PrintLast Go.Proofs.YtenmgimhgdhgmaaW.PrintMore
set_option linter.unusedVariables false
set_option linter.unusedSimpArgs false
theorem second_calls {w0 W : World} {n bN bR bK gA gT gX gR : Nat} {k : Nat} {sa tmp nx rk : List Int} (h : St w0 W n bN bR bK gA gT gX gR k sa tmp nx rk) (s : List Int) (hs : s.length = n) (hn : n ≤ 65536) (hk : k ≤ 65536) (i : Nat) (hi : i < n) :
    Calls Try.prog 24 #[.int .i64 i, .pointer (some ⟨bK, 0, none⟩), .pointer (some ⟨bN, 0, none⟩), .pointer (some ⟨bR, 0, none⟩)] W fun e w' => e = .returned (.int .i64 (second s k (rd rk) i)) ∧ w' = W := by
  have cN := h.N.cell
  have cR := h.R.cell
  have cK := h.K.cell
  by_cases hlt : i + k < n
  · have cr := h.r.cell (i + k) (by rw [h.lr]; exact hlt)
    have e : second s k (rd rk) i = rd rk ((i + k : Nat) : Int) := by
      unfold second
      rw [if_pos (by omega)]
      congr 1
    rw [e]
    generalize rd rk ((i + k : Nat) : Int) = y at cr
    clear e h
    go_enter Try.func24, Try.ntmps24
    go_wp2
    go_ret
    exact ⟨rfl, rfl⟩
  · have e : second s k (rd rk) i = -1 := by
      unfold second
      rw [if_neg (by omega)]
    rw [e]
    clear e h
    go_enter Try.func24, Try.ntmps24
    go_wp2
    go_ret
    exact ⟨rfl, rfl⟩
theorem C_cell {w : World} {A : Option Addr} {l : List Int} (h : Kd.C (Kd.int .i64) w A l.length l) (k : Nat) (hk : k < l.length) : ∃ a, A = some a ∧ w.cell? (a.add k) = some (.int .i64 (rd l (k : Nat))) := by
  obtain ⟨ad, e, h⟩ := Kd.at_int h (k : Int) (by omega) (by omega)
  exact ⟨ad, e, by simpa using h⟩
set_option maxRecDepth 100000 in
theorem array_long (A : Option Addr) (c : Nat) (l : List Int) (w : World) (hl : 65536 < l.length) :
    Calls Try.prog 10 #[.slice A l.length c] w fun e w' => e = .returned (.tuple #[.slice none 0 0, .int .i64 5]) ∧ w' = w := by
  have h1 : (65536 : Int) < (l.length : Int) := by omega
  go_enter Try.func10, Try.ntmps10
  go_wp2
  go_ret2
  exact ⟨rfl, rfl⟩
set_option maxRecDepth 100000 in
theorem array_neg (A : Option Addr) (c : Nat) (l : List Int) (w : World) (hl : l.length ≤ 65536) (hC : Kd.C (Kd.int .i64) w A l.length l) (hneg : ∃ x ∈ l, x < 0) :
    Calls Try.prog 10 #[.slice A l.length c] w fun e w' => e = .returned (.tuple #[.slice none 0 0, .int .i64 1]) ∧ w' = w := by
  have h1 : ¬ (65536 : Int) < (l.length : Int) := by omega
  have HC := Aside0.mk hC
  have HN := Aside0.mk hneg
  clear hC hneg
  go_enter Try.func10, Try.ntmps10
  go_wp2
  go_loop [29] (fun i => ∃ k : Nat, k ≤ l.length ∧ i = .int .i64 k ∧ Aside0 (∀ x ∈ l.take k, 0 ≤ x)) (fun i => l.length - (intOf i).toNat)
  case atStart => exact ⟨0, Nat.zero_le _, rfl, ⟨by simp⟩⟩
  case round =>
    obtain ⟨k, hk, rfl, HP⟩ := hrel
    by_cases hlt : k < l.length
    · obtain ⟨a, rfl, hc⟩ := C_cell HC.out k hlt
      by_cases hx : rd l (k : Nat) < 0
      · go_wp2
        go_ret2
        exact ⟨rfl, rfl⟩
      · have hx' : 0 ≤ rd l (k : Nat) := by omega
        have hq : Aside0 (∀ x ∈ l.take (k + 1), 0 ≤ x) := ⟨by
          rw [List.take_succ_eq_append_getElem hlt]
          intro x hm
          rcases List.mem_append.1 hm with hm | hm
          · exact HP.out x hm
          · simp only [List.mem_singleton] at hm
            rw [hm, ← rd_at hlt]; exact hx'⟩
        go_wp2
        go_round
        case rel => exact ⟨k + 1, by omega, by go_num, hq⟩
        case measure => simp [intOf]; omega
    · exfalso
      obtain ⟨x, hm, hx⟩ := HN.out
      rw [List.take_of_length_le (by omega)] at HP
      have := HP.out x hm
      omega
theorem blk_kept {w W' : World} {S : Nat → Prop} {g : Nat} {l : List Int} (h : Blk w g l) (hk : Kept w W' S) (hn : ¬ S g) : Blk W' g l := (hk.2 g h.lt hn).trans h
theorem key_calls (w0 w : World) (n gA gR gT : Nat) (sa rk tmp : List Int) (m : Nat) (hB : Below w0.heap.size w0 w) (ha : Blk w gA sa) (hr : Blk w gR rk) (ht : Blk w gT tmp) (la : sa.length = n) (lr : rk.length = n) (lt : tmp.length = n)
    (n1 : gA ≠ gT) (n2 : gR ≠ gT) (y : w0.heap.size ≤ gT) (hp : sa.Perm (iota n)) (hk : ∀ c ∈ rk, 0 ≤ c ∧ c < m) (hn : n ≤ 65536) (hm : m ≤ 65536) :
    Calls Try.prog 23 #[.slice (some ⟨gA, 0, none⟩) n n, .slice (some ⟨gR, 0, none⟩) n n, .int .i64 m, .slice (some ⟨gT, 0, none⟩) n n] w fun e w' => e = .returned (.tuple #[]) ∧ Blk w' gT (bucket sa (rd rk) m) ∧ (bucket sa (rd rk) m).length = n ∧ Below w0.heap.size w0 w' ∧ Kept w w' (fun k => k = gT) := by
  obtain ⟨k, hkf⟩ := (byKey_ev sa rk m tmp hk (by rw [lr]; exact hp) (by omega) (by omega) (by omega)).rounds
  have h := suffix_byKey.calls k (some ⟨gA, 0, none⟩) n sa (some ⟨gR, 0, none⟩) n rk (m : Int) (fun k => k = gT) (.slice (some ⟨gT, 0, none⟩) n n) tmp _ w0 w hB
    (fun W' hK => (blk_kept ha hK n1).C (by omega)) (by omega) (fun W' hK => (blk_kept hr hK n2).C (by omega)) (by omega) (by have := ht.R w0.heap.size y (by omega); rw [lt] at this; exact this) hkf
  rw [la, lr] at h
  refine h.mono ?_
  rintro e w' ⟨rfl, hR, hB', hK⟩
  obtain ⟨h1, h2⟩ := Blk.of_R hR
  exact ⟨rfl, h1, h2, hB', hK⟩
theorem bucket_congr {l : List Int} {f g : Int → Int} (m : Nat) (h : ∀ p ∈ l, f p = g p) : bucket l f m = bucket l g m := by
  unfold bucket
  refine flat_congr fun c _ => List.filter_congr fun p hp => ?_
  rw [h p hp]
theorem iv {a b : Int} (h : a = b) : Value.int .i64 a = Value.int .i64 b := by rw [h]
theorem take_set_succ (t : List Int) (at_ : Nat) (v : Int) (h : at_ < t.length) : (t.set at_ v).take (at_ + 1) = t.take at_ ++ [v] := by
  rw [List.take_succ_eq_append_getElem (by rw [List.length_set]; exact h), List.take_set_of_le (by omega), List.getElem_set_self]
/-- What of the order by the second half has been laid when i places have been looked at. -/
def pfx (n k : Nat) (sa : List Int) (i : Nat) : List Int := (iota n).drop (n - k) ++ ((sa.take i).filter fun p => decide ((k : Int) ≤ p)).map fun p : Int => p - (k : Int)
theorem pfx_len0 (n k : Nat) (hk : k ≤ n) (sa : List Int) : (pfx n k sa 0).length = k := by simp [pfx, iota_len]; omega
theorem pfx_all (n k : Nat) (sa : List Int) : pfx n k sa sa.length = bySecond n k sa := by unfold pfx bySecond; rw [List.take_length]
theorem pfx_succ (n k : Nat) (sa : List Int) (i : Nat) (h : i < sa.length) : pfx n k sa (i + 1) = if (k : Int) ≤ rd sa (i : Nat) then pfx n k sa i ++ [rd sa (i : Nat) - k] else pfx n k sa i := by
  unfold pfx
  rw [List.take_succ_eq_append_getElem h, List.filter_append, List.map_append, rd_at h]
  by_cases e : (k : Int) ≤ sa[i]
  · rw [if_pos e, List.append_assoc]; simp [e]
  · rw [if_neg e]; simp [e]
theorem pfx_le (n k : Nat) (hk : k ≤ n) (sa : List Int) (hp : sa.Perm (iota n)) (i : Nat) (hi : i ≤ sa.length) : (pfx n k sa i).length ≤ n := by
  have h1 : (bySecond n k sa).length = n := by rw [(bySecond_perm hk hp).length_eq, iota_len]
  rw [← pfx_all] at h1
  obtain ⟨d, hd⟩ : ∃ d, sa.length = i + d := ⟨sa.length - i, by omega⟩
  have : ∀ d, i + d ≤ sa.length → (pfx n k sa i).length ≤ (pfx n k sa (i + d)).length := by
    intro d
    induction d with
    | zero => intro _; exact Nat.le_refl _
    | succ d ih =>
      intro h
      refine Nat.le_trans (ih (by omega)) ?_
      rw [show i + (d + 1) = i + d + 1 from rfl, pfx_succ n k sa (i + d) (by omega)]
      split
      · simp
      · exact Nat.le_refl _
  have h2 := this d (by omega)
  rw [← hd, h1] at h2
  exact h2
theorem climb_put {l : List Int} {k : Nat} {sb nx : List Int} {i q : Nat} (hp : sb.Perm (iota l.length)) (hil : i < l.length) (lx : nx.length = l.length) (hcl : ∀ j : Nat, j < i → rd nx (rd sb (j : Nat)) = climb l k sb j)
    (hq : rd sb (i : Nat) = q) (hqn : q < l.length) (x : Int) (hx : climb l k sb i = x) : ∀ j : Nat, j < i + 1 → rd (nx.set q x) (rd sb (j : Nat)) = climb l k sb j := by
  intro j hj
  have hl : sb.length = l.length := by rw [hp.length_eq, iota_len]
  have him : rd sb (j : Nat) ∈ iota l.length := hp.subset (by rw [rd_at (by omega)]; exact List.getElem_mem _)
  obtain ⟨hq0, hq1⟩ := mem_iota.1 him
  obtain ⟨r, hr⟩ : ∃ r : Nat, rd sb (j : Nat) = r := ⟨(rd sb (j : Nat)).toNat, by omega⟩
  rw [hr, rd_set _ _ _ _ (by omega)]
  by_cases e : j = i
  · subst e
    rw [hq] at hr
    rw [if_pos (by omega)]; exact hx.symm
  · have hne : r ≠ q := fun e2 => by
      have hnd : sb.Nodup := hp.symm.nodup (iota_nodup _)
      rw [rd_at (by omega)] at hq hr
      exact List.pairwise_iff_getElem.1 hnd j i (by omega) (by omega) (by omega) (by omega)
    rw [if_neg hne, ← hr]
    exact hcl j (by omega)
theorem climb_next {l : List Int} {k : Nat} {sb : List Int} {rank : Int → Int} {many : Int} (hr : Ranked l k rank many) (hk : 0 < k) {i p q : Nat} (hi : 1 ≤ i) (hp : rd sb ((i - 1 : Nat) : Int) = p) (hq : rd sb (i : Nat) = q) (hpn : p < l.length) (hqn : q < l.length) :
    climb l (2 * k) sb i = climb l (2 * k) sb (i - 1) + if rank p = rank q ∧ second l k rank p = second l k rank q then 0 else 1 := by
  obtain ⟨j, rfl⟩ : ∃ j, i = j + 1 := ⟨i - 1, by omega⟩
  rw [Nat.add_sub_cancel] at hp ⊢
  show climb l (2 * k) sb j + (if pre l (2 * k) (rd sb (j : Nat)) = pre l (2 * k) (rd sb ((j + 1 : Nat) : Int)) then 0 else 1) = _
  rw [hp, hq]
  have e : pre l (2 * k) (p : Int) = pre l (2 * k) (q : Int) ↔ rank p = rank q ∧ second l k rank p = second l k rank q := by
    rw [pre_double_eq l k _ _ (by omega) (by omega), hr.eq (by omega) (by omega) (by omega) (by omega), second_eq hr hk (by omega) (by omega)]
  by_cases h : rank p = rank q ∧ second l k rank p = second l k rank q
  · rw [if_pos h, if_pos (e.2 h)]
  · rw [if_neg h, if_neg (fun h' => h (e.1 h'))]
end Go.Proofs.Ytenmgimhgdhgmaa.Hand
