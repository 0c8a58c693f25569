/- A Table: what it is in memory; may, lay, Put, Delete, Get, Len. -/
import Derived.Test.YtaghcepochjoeaaBase
namespace Go.Proofs.Ytaghcepochjoeaa.Hand
open Go.RowKit Go.Proofs.Ytaghcepochjoeaa.PA Go.Proofs.Ytaghcepochjoeaa.MapV Go.Proofs.YtaghcepochjoeaaW.PrintWords Go.Proofs.YtaghcepochjoeaaW.PrintLast Go.Proofs.YtaghcepochjoeaaW.PrintMore
attribute [local go_sem] max2_int min2_int
set_option linter.unusedVariables false
set_option linter.unusedSimpArgs false
set_option linter.unusedSectionVars false
/-- What a map's entry holds: its row in memory, and the bytes in it. -/
structure TE where
  A : Option (Nat × Nat)
  n : Nat
  c : Nat
  has : Bool
  xs : List Int
def TE.addr (x : TE) : Option Addr := x.A.map fun p => ⟨p.1, p.2, none⟩
def teV (x : TE) : Value := .agg #[.slice x.addr x.n x.c, .bool x.has]
def teD (x : TE) : DataW Unit := .agg [match x.A with | none => .nil | some p => .agg [.lit (.int .i64 p.1), .lit (.int .i64 p.2)], .lit (.int .i64 x.n), .lit (.int .i64 x.c), .lit (.bool x.has)]
def teE (v : Value) : Option (DataW Unit × List MemPlace) := match v with
  | .agg a => match a.toList with
    | [.slice none n c, .bool b] => some (teD ⟨none, n, c, b, []⟩, [])
    | [.slice (some ⟨g, o, none⟩) n c, .bool b] => some (teD ⟨some (g, o), n, c, b, []⟩, [])
    | _ => none
  | _ => none
theorem teE_mk (x : TE) : teE (teV x) = some (teD x, []) := by
  obtain ⟨A, n, c, b, xs⟩ := x
  cases A <;> rfl
theorem teE_inv {v : Value} {y : DataW Unit × List MemPlace} (h : teE v = some y) : ∃ x : TE, v = teV x ∧ y = (teD x, []) := by
  unfold teE at h
  split at h
  · rename_i a
    split at h
    · rename_i n c b e
      injection h with h
      exact ⟨⟨none, n, c, b, []⟩, by unfold teV; congr 1; exact Array.toList_inj.1 e, h.symm⟩
    · rename_i g o n c b e
      injection h with h
      exact ⟨⟨some (g, o), n, c, b, []⟩, by unfold teV; congr 1; exact Array.toList_inj.1 e, h.symm⟩
    · cases h
  · cases h
theorem teD_inj {x x' : TE} (h : teD x = teD x') : teV x = teV x' := by
  obtain ⟨A, n, c, b, xs⟩ := x
  obtain ⟨A', n', c', b', xs'⟩ := x'
  unfold teD at h
  simp only [DataW.agg.injEq, List.cons.injEq, DataW.lit.injEq, Lit.int.injEq, Lit.bool.injEq, and_true, true_and] at h
  obtain ⟨h1, h2, h3, h4⟩ := h
  have e2 : n = n' := by omega
  have e3 : c = c' := by omega
  subst e2 e3 h4
  have e1 : A = A' := by
    cases A with
    | none => cases A' with
      | none => rfl
      | some q => cases h1
    | some p => cases A' with
      | none => cases h1
      | some q =>
        obtain ⟨p1, p2⟩ := p
        obtain ⟨q1, q2⟩ := q
        simp only [DataW.agg.injEq, List.cons.injEq, DataW.lit.injEq, Lit.int.injEq, and_true, true_and] at h1
        have : p1 = q1 := by omega
        have : p2 = q2 := by omega
        subst p1 p2
        rfl
  subst e1
  rfl
def te0 : TE := ⟨none, 0, 0, false, []⟩
def KE : Elem TE where
  enc := teV
  z := .agg #[.slice none 0 0, .bool false]
  elem := teE
  d := teD
  zd := teD te0
  reads := teE_mk
  zmk := teE_mk te0
  inj := fun v v' y y' h h' e => by
    obtain ⟨x, rfl, rfl⟩ := teE_inv h
    obtain ⟨x', rfl, rfl⟩ := teE_inv h'
    exact teD_inj e
theorem PT : PM KE Try.prog 64 9 69 := ⟨Try.underlying9, Try.underlying64, Try.zeroValue69⟩
abbrev TS := List (Key × (List Int × Bool))
def seen (x : TE) : List Int × Bool := (x.xs, x.has)
def view (es : List (Key × TE)) : TS := es.map fun p => (p.1, seen p.2)
theorem view_at (es : List (Key × TE)) (k : Key) : at_ (view es) k = (at_ es k).map seen := by
  unfold at_ view
  rw [List.find?_map]
  simp only [Function.comp_def]
  cases es.find? (fun p => p.1 == k) <;> rfl
theorem view_put (es : List (Key × TE)) (k : Key) (x : TE) : view (put es k x) = put (view es) k (seen x) := by
  unfold put
  rw [view_at]
  simp only [Option.isSome_map]
  split
  · unfold view
    rw [List.map_map, List.map_map]
    refine List.map_congr_left fun p hp => ?_
    simp only [Function.comp]
    split <;> rfl
  · unfold view
    simp
theorem C_block {W W' : World} {A : Option Addr} {n : Nat} {l : List Int} (h : Kd.C (Kd.int .u8) W A n l) (hb : ∀ ad, A = some ad → W'.heap[ad.block]? = W.heap[ad.block]?) : Kd.C (Kd.int .u8) W' A n l := by
  refine ⟨h.1, h.2.1, fun hp => ?_⟩
  obtain ⟨ad, e, hf⟩ := h.2.2 hp
  have hb := hb ad e
  refine ⟨ad, e, fun j p hj => ?_⟩
  obtain ⟨c, h1, h2, h3⟩ := hf j p hj
  refine ⟨c, h1, h2, fun i u hu => ?_⟩
  rw [← h3 i u hu]
  unfold World.cell?
  rw [show (ad.add (j * (Kd.int .u8).sz + i)).block = ad.block from by unfold Addr.add; split <;> rfl, hb]
structure RowOk (W w0 : World) (ok : Nat → Prop) (t m : Nat) (x : TE) : Prop where
  len : x.n = x.xs.length
  cap : x.n ≤ x.c
  row : Kd.C (Kd.int .u8) W x.addr x.n x.xs
  mine : ∀ ad, x.addr = some ad → ok ad.block ∧ w0.heap.size ≤ ad.block ∧ ad.block < W.heap.size ∧ ad.block ≠ t ∧ ad.block ≠ m
/-- A Table that holds just these, in blocks of its own. -/
structure TabUp (W w0 : World) (ok : Nat → Prop) (t : Nat) (S : TS) : Prop where
  is : ∃ m es, S = view es ∧ W.heap[t]? = some (.cells #[.map (some m)] 66 (0, 0)) ∧ HasMap KE Try.prog 9 W m es ∧ t ≠ m ∧ (ok t ∧ w0.heap.size ≤ t) ∧ (ok m ∧ w0.heap.size ≤ m) ∧ ∀ p ∈ es, RowOk W w0 ok t m p.2
  below : Below w0.heap.size w0 W
section
variable {W W' w w0 w1 : World} {ok ok' T : Nat → Prop} {t m : Nat} {S : TS} {x : TE} {es : List (Key × TE)}
theorem RowOk.step (h : RowOk W w0 ok t m x) (hs : W.heap.size ≤ W'.heap.size) (hb : ∀ b, b < W.heap.size → ok b → b ≠ m → W'.heap[b]? = W.heap[b]?) : RowOk W' w0 ok t m x :=
  ⟨h.len, h.cap, C_block h.row (fun ad e => have q := h.mine ad e; hb _ q.2.2.1 q.1 q.2.2.2.2), fun ad e => have q := h.mine ad e; ⟨q.1, q.2.1, Nat.lt_of_lt_of_le q.2.2.1 hs, q.2.2.2⟩⟩
theorem TabUp.kept (h : TabUp W w0 ok t S) (hk : Kept W W' T) (ha : ∀ k, ok k → ¬ T k) (hB : Below w0.heap.size w0 W') : TabUp W' w0 ok t S := by
  obtain ⟨⟨m, es, h1, h2, h3, h4, h5, h6, h7⟩, _⟩ := h
  have ht : t < W.heap.size := (Array.getElem?_eq_some_iff.1 h2).1
  exact ⟨⟨m, es, h1, (hk.2 t ht (ha t h5.1)).trans h2, h3.step (hk.2 m h3.lt (ha m h6.1)), h4, h5, h6, fun p hp => (h7 p hp).step hk.1 (fun b hb ho _ => hk.2 b hb (ha b ho))⟩, hB⟩
theorem TabUp.quiet (h : TabUp W w0 ok t S) (hb : Below W.heap.size W W') : TabUp W' w0 ok t S :=
  h.kept (T := fun _ => False) (Kept.of_below hb _) (fun _ _ h => h) (h.below.trans (hb.mono h.below.size))
theorem TabUp.alloc (h : TabUp W w0 ok t S) (o : Obj) : TabUp (W.alloc o) w0 ok t S := h.quiet ((Below.refl _ _).alloc (Nat.le_refl _) o)
theorem TabUp.mono (h : TabUp W w0 ok t S) (hm : ∀ k, ok k → ok' k) : TabUp W w0 ok' t S := by
  obtain ⟨⟨m, es, h1, h2, h3, h4, h5, h6, h7⟩, h8⟩ := h
  exact ⟨⟨m, es, h1, h2, h3, h4, ⟨hm _ h5.1, h5.2⟩, ⟨hm _ h6.1, h6.2⟩, fun p hp => ⟨(h7 p hp).len, (h7 p hp).cap, (h7 p hp).row, fun ad e => have q := (h7 p hp).mine ad e; ⟨hm _ q.1, q.2⟩⟩⟩, h8⟩
theorem TabUp.bound (h : TabUp W w0 ok t S) : TabUp W w0 (fun k => ok k ∧ w0.heap.size ≤ k ∧ k < W.heap.size) t S := by
  obtain ⟨⟨m, es, h1, h2, h3, h4, h5, h6, h7⟩, h8⟩ := h
  have ht : t < W.heap.size := (Array.getElem?_eq_some_iff.1 h2).1
  exact ⟨⟨m, es, h1, h2, h3, h4, ⟨⟨h5.1, h5.2, ht⟩, h5.2⟩, ⟨⟨h6.1, h6.2, h3.lt⟩, h6.2⟩, fun p hp => ⟨(h7 p hp).len, (h7 p hp).cap, (h7 p hp).row, fun ad e => have q := (h7 p hp).mine ad e; ⟨⟨q.1, q.2.1, q.2.2.1⟩, q.2⟩⟩⟩, h8⟩
theorem clone_calls (A : Option Addr) (n c : Nat) (l : List Int) (w : World) (hr : Kd.C (Kd.int .u8) w A n l) (hl : n ≤ 140737488355328) :
    Calls Try.prog 32 #[.slice A n c] w fun e w' => ∃ A' c', e = .returned (.slice A' l.length c') ∧ l.length ≤ c' ∧ Kd.C (Kd.int .u8) w' A' l.length l ∧ (∀ ad, A' = some ad → ∃ g o, ad = ⟨g, o, none⟩ ∧ w.heap.size ≤ g ∧ g < w'.heap.size) ∧ Below w.heap.size w w' := by
  have hn := C_len hr
  subst hn
  cases A with
  | none =>
    have h0 : l = [] := by
      rcases Nat.eq_zero_or_pos l.length with h | h
      · exact List.eq_nil_of_length_eq_zero h
      · obtain ⟨ad, e, _⟩ := hr.2.2 h
        cases e
    subst h0
    refine (Try.bytes_Clone_nil 0 c w).mono ?_
    rintro e w' ⟨rfl, rfl⟩
    exact ⟨none, 0, rfl, Nat.le_refl _, ⟨rfl, by simp, fun h => absurd h (by simp)⟩, fun ad h => (by cases h), Below.refl _ _⟩
  | some a =>
    refine (Try.bytes_Clone_at a l.length c l w rfl hl (fun i hi => ?_)).mono ?_
    · obtain ⟨ad, e, h⟩ := Kd.at_int hr (i : Int) (by omega) (by omega)
      cases e
      exact h
    · rintro e w' ⟨v, rfl, ho, _, hb⟩
      have hR : Kd.R (Kd.int .u8) 5 w' w.heap.size (fun k => w.heap.size ≤ k) v l := ⟨fun k hk => by
        rcases ho.2 with ⟨rfl, _⟩ | ⟨g, cap, cur, rfl, hge, _⟩
        · simp [Value.ownBlock] at hk
        · simp [Value.ownBlock] at hk
          omega, _, ho, Kd.reps_scalar _⟩
      obtain ⟨A', c', rfl, h1, h2⟩ := Kd.R_reads hR
      refine ⟨A', c', rfl, h1, h2, fun ad e => ?_, hb⟩
      rcases ho.2 with ⟨e2, _⟩ | ⟨g, cap, cur, e2, hge, hblk, _⟩
      · injection e2 with e2
        rw [e2] at e; cases e
      · injection e2 with e2
        rw [e2] at e
        injection e with e
        subst e
        exact ⟨g, 0, rfl, hge, (Array.getElem?_eq_some_iff.1 hblk).1⟩
end
end Go.Proofs.Ytaghcepochjoeaa.Hand
