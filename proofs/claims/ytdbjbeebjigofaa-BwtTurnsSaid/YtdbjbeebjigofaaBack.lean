/- bwt.Back: the order of the row's symbols. -/
import Derived.Test.YtdbjbeebjigofaaStable
import Derived.Test.YtdbjbeebjigofaaPTx2
import Derived.Test.YtdbjbeebjigofaaEvT
import Derived.Deep.RegionLawGrows
namespace Go.Proofs.Ytdbjbeebjigofaa.Hand
open Go.RowKit Go.Proofs.Ytdbjbeebjigofaa.Iter Go.Proofs.Ytdbjbeebjigofaa.PD Go.Proofs.Ytdbjbeebjigofaa.Sfx Go.Proofs.Ytdbjbeebjigofaa.BwtP Go.Proofs.YtdbjbeebjigofaaW.PrintWords Go.Proofs.YtdbjbeebjigofaaW.PrintLast Go.Proofs.YtdbjbeebjigofaaW.PrintMore
open Go.Proofs.Try.Stab (stable_calls R Env Ord)
open Go.Shelf Go.Lib Go.Sort Go.Proofs
set_option linter.unusedVariables false
set_option linter.unusedSimpArgs false

/-- How two places of a row stand to each other by their symbols. -/
def cmpI (l : List Int) (x y : Int) : Int := if rd l x < rd l y then -1 else if rd l y < rd l x then 1 else 0

set_option maxRecDepth 100000 in
theorem back1_calls (l : List Int) (A : Option Addr) (c bL : Nat) (W : World) (hb : Box W bL 22 (.slice A l.length c)) (hC : Kd.C (Kd.int .i64) W A l.length l) (hl : l.length ≤ 65536) (x y : Nat) (hx : x < l.length) (hy : y < l.length) :
    Calls Try.prog 22 #[.int .i64 x, .int .i64 y, .pointer (some ⟨bL, 0, none⟩)] W fun e w' => e = .returned (.int .i64 (cmpI l x y)) ∧ ∃ q, w' = W.drewN q := by
  have cb := hb.cell
  obtain ⟨a, rfl, cx⟩ := C_cell hC x hx
  obtain ⟨a', ha, cy⟩ := C_cell hC y hy
  injection ha with ha
  subst ha
  have HV : Aside0 (cmpI l x y = if rd l (x : Nat) < rd l (y : Nat) then -1 else if rd l (y : Nat) < rd l (x : Nat) then 1 else 0) := ⟨rfl⟩
  generalize cmpI l x y = r at HV ⊢
  generalize rd l (x : Nat) = vx at *
  generalize rd l (y : Nat) = vy at *
  have h1 : (x : Int) < l.length := by omega
  have h2 : (y : Int) < l.length := by omega
  have h3 : (0 : Int) ≤ (x : Int) := by omega
  have h4 : (0 : Int) ≤ (y : Int) := by omega
  clear hb hC
  by_cases hlt : vx < vy
  · have hltb : decide (vx < vy) = true := decide_eq_true hlt
    have HR : Aside0 (r = -1) := ⟨by rw [HV.out, if_pos hlt]⟩
    go_enter Try.func22, Try.ntmps22
    go_wp2
    go_quiet (fail)
    go_wp2
    go_ret
    obtain rfl := HR.out
    exact ⟨rfl, _, rfl⟩
  · have hltb : decide (vx < vy) = false := decide_eq_false hlt
    by_cases hgt : vy < vx
    · have hgtb : decide (vx > vy) = true := decide_eq_true hgt
      have HR : Aside0 (r = 1) := ⟨by rw [HV.out, if_neg hlt, if_pos hgt]⟩
      go_enter Try.func22, Try.ntmps22
      go_wp2
      go_quiet (fail)
      go_wp2
      go_quiet (fail)
      go_wp2
      go_ret
      obtain rfl := HR.out
      exact ⟨rfl, _, World.drewN_drewN _ _ _⟩
    · have hgtb : decide (vx > vy) = false := decide_eq_false hgt
      have HR : Aside0 (r = 0) := ⟨by rw [HV.out, if_neg hlt, if_neg hgt]⟩
      go_enter Try.func22, Try.ntmps22
      go_wp2
      go_quiet (fail)
      go_wp2
      go_quiet (fail)
      go_wp2
      go_ret
      obtain rfl := HR.out
      exact ⟨rfl, _, World.drewN_drewN _ _ _⟩

/-! ### what the sort leaves -/
theorem sw_block {α : Type} [Inhabited α] {enc : α → Value} {w0 W : World} {blk off : Nat} {dk : Array α} (h : SW enc w0 blk off dk W) : W.os = w0.os ∧ W.tape = w0.tape ∧ W.output = w0.output ∧ w0.heap.size ≤ W.heap.size ∧ ∀ b, b < w0.heap.size → b ≠ blk → W.heap[b]? = w0.heap[b]? := by
  have hle := h.le
  obtain ⟨n, os, rfl⟩ := h
  refine ⟨rfl, rfl, rfl, hle, fun b hb hne => ?_⟩
  unfold sortWorld grow putRow mapBlock
  simp only
  rw [Array.getElem?_append_left (by simp [ahead]; exact hb), Array.getElem?_modify, if_neg (Ne.symm hne)]
  rfl
theorem sw_row {n : Nat} {enc : Fin (n + 1) → Value} (he : ∀ x, enc x = .int .i64 (x.val : Nat)) {w0 W : World} {blk : Nat} {M : List (Fin (n + 1))} {l0 : List Int} (h : SW enc w0 blk 0 M.toArray W) (h0 : Blk w0 blk l0) (hl : M.length = l0.length) :
    Blk W blk (M.map fun x => ((x.val : Nat) : Int)) := by
  obtain ⟨m, os, rfl⟩ := h
  have hlt := h0.lt
  unfold Blk at h0 ⊢
  unfold sortWorld grow putRow mapBlock
  simp only
  rw [Array.getElem?_append_left (by simp [ahead]; exact hlt), Array.getElem?_modify, if_pos rfl]
  have e : (Sort.ahead w0 m).heap = w0.heap := rfl
  rw [e, h0]
  simp only [Option.map_some, onCells]
  congr 2
  apply Array.ext
  · simp [putCells, hl]
  · intro i h1 h2
    have hi : i < M.length := by simpa using h2
    simp only [putCells, Array.getElem_mapIdx]
    rw [if_pos ⟨Nat.zero_le _, by simp; exact hi⟩, he]
    simp [hi]

theorem blk_fin {n : Nat} {w : World} {g : Nat} (hO : Blk w g (iota (n + 1))) : Holds (fun x : Fin (n + 1) => Value.int .i64 ((x.val : Nat) : Int)) w g 0 (List.finRange (n + 1)).toArray := by
  intro j hj
  have hj' : j < n + 1 := by simpa using hj
  refine ⟨?_, hO.frozen _⟩
  rw [Nat.zero_add, hO.cell j (by rw [iota_len]; exact hj'), rd_at (by rw [iota_len]; exact hj')]
  rw [getElem!_pos _ j hj]
  simp [iota]

/-- slices.SortStableFunc over the places of a row. -/
theorem sort_order (n : Nat) (hn : n + 1 ≤ 65536) (l : List Int) (hl : l.length = n + 1) (A : Option Addr) (c gO bL : Nat) (w : World) (hO : Blk w gO (iota (n + 1))) (hb : Box w bL 22 (.slice A l.length c)) (hne : bL ≠ gO)
    (hC : ∀ W', Kept w W' (fun k => k = gO) → Kd.C (Kd.int .i64) W' A l.length l) :
    Calls Try.prog 21 #[.slice (some ⟨gO, 0, none⟩) (n + 1 : Nat) (n + 1 : Nat), .func (.func 22) #[] #[.pointer (some ⟨bL, 0, none⟩)]] w fun e w' => e = .returned (.tuple #[]) ∧ Blk w' gO (ordOf l) ∧ Kept w w' (fun k => k = gO) ∧ (∀ B, B ≤ gO → Below B w w') := by
  let enc : Fin (n + 1) → Value := fun x => .int .i64 ((x.val : Nat) : Int)
  let cf : Fin (n + 1) → Fin (n + 1) → Int := fun x y => cmpI l x.val y.val
  have hlt := hO.lt
  have hH := blk_fin hO
  have hlf : ∀ x y : Fin (n + 1), ltOf cf x y = decide (rd l (x.val : Nat) < rd l (y.val : Nat)) := fun x y => by
    unfold ltOf
    show decide (cmpI l (x.val : Nat) (y.val : Nat) < 0) = _
    unfold cmpI
    rw [decide_eq_decide]
    split
    · simp [*]
    · split <;> simp [*]
  have hcell : ∀ W : World, (∃ dk : Array (Fin (n + 1)), SW enc w gO 0 dk W) → Box W bL 22 (.slice A l.length c) ∧ Kd.C (Kd.int .i64) W A l.length l := by
    rintro W ⟨dk, h⟩
    obtain ⟨_, _, _, hsz, hbl⟩ := sw_block h
    exact ⟨(hbl bL hb.lt hne).trans hb, hC W ⟨hsz, fun i hi hn => hbl i hi hn⟩⟩
  have E : Env enc cf (fun x => x.val) 22 #[.pointer (some ⟨bL, 0, none⟩)] gO 0 (n + 1) (List.finRange (n + 1)).toArray w := {
    row := ⟨fun _ => rfl, hH, hlt⟩
    size := by simp
    eg := fun args w => (Bears.enters (P := Try.prog) (f := 22) (B := Try.f22) ⟨_, by decide, Try.func22⟩ rfl) args w
    cmp := by
      intro m os dk hs x y
      obtain ⟨h1, h2⟩ := hcell _ ⟨dk, m, os, rfl⟩
      refine (back1_calls l A c bL _ h1 h2 (by omega) x.val y.val (by omega) (by omega)).mono ?_
      rintro e w' ⟨he, q, hq⟩
      exact ⟨he, q, #[], by rw [hq, grow_empty]⟩
    ord := ⟨fun x y z h1 h2 => by rw [hlf] at *; simp at *; omega, fun x => by rw [hlf]; simp, fun x y z h1 h2 => by rw [hlf] at *; simp at *; omega, fun x y h => Fin.ext h⟩
    fit := by omega }
  have hL : (List.finRange (n + 1)).Pairwise (fun x y : Fin (n + 1) => x.val < y.val) := by
    rw [List.pairwise_iff_getElem]
    intro i j hi hj hij
    simpa using hij
  have hc := stable_calls E (n + 1) w (List.finRange (n + 1)) (n + 1 : Nat) rfl (by simp) (by omega) hL (SW.start hH)
  have hfin : ∀ w' (M : List (Fin (n + 1))), SW enc w gO 0 M.toArray w' → M.Perm (List.finRange (n + 1)) → M.Pairwise (R (ltOf cf) fun x => x.val) → Blk w' gO (ordOf l) ∧ Kept w w' (fun k => k = gO) ∧ (∀ B, B ≤ gO → Below B w w') := by
    intro w' M hS hp hs
    obtain ⟨e1, e2, e3, hsz, hbl⟩ := sw_block hS
    refine ⟨?_, ⟨hsz, fun i hi hn => hbl i hi hn⟩, fun B hB => ⟨e1, e2, e3, hsz, fun k hk => hbl k (by omega) (by omega)⟩⟩
    have h := sw_row (fun x => rfl) hS hO (by rw [hp.length_eq, iota_len]; simp)
    have ho : IsOrd l (M.map fun x => ((x.val : Nat) : Int)) := by
      refine ⟨?_, ?_⟩
      · have h1 := hp.map fun x : Fin (n + 1) => ((x.val : Nat) : Int)
        refine h1.trans ?_
        rw [hl]
        have : (List.finRange (n + 1)).map (fun x : Fin (n + 1) => ((x.val : Nat) : Int)) = iota (n + 1) := by
          refine List.ext_getElem (by simp [iota_len]) fun i h1 h2 => ?_
          simp [iota]
        rw [this]
      · rw [List.pairwise_map]
        refine hs.imp fun {a b} h => ?_
        rcases h with h | ⟨h1, h2⟩
        · rw [hlf] at h; exact Or.inl (by simpa using h)
        · have h3 : a.val < b.val := h2
          rw [hlf] at h1; simp at h1; omega
    rw [ho.uniq (ordOf_isOrd l)] at h
    exact h
  have HF := Aside0.mk hfin
  have HC := Aside0.mk hc
  clear hfin hc hL E hcell hlf hH hC hO hb
  clear_value enc cf
  go_enter Try.func21, Try.ntmps21
  go_wp2_with (go_at_call 33; refine HC.out.mono ?_; rintro e w' ⟨rfl, M, hS, hp, hs⟩)
  go_end0
  obtain ⟨h1, h2, h3⟩ := HF.out _ M hS hp hs
  exact ⟨rfl, h1, h2, h3⟩
end Go.Proofs.Ytdbjbeebjigofaa.Hand

/- bwt.Back: its walk. -/
namespace Go.Proofs.Ytdbjbeebjigofaa.Hand
open Go.RowKit Go.Proofs.Ytdbjbeebjigofaa.Iter Go.Proofs.Ytdbjbeebjigofaa.PT Go.Proofs.Ytdbjbeebjigofaa.Sfx Go.Proofs.Ytdbjbeebjigofaa.BwtP Go.Proofs.YtdbjbeebjigofaaW.PrintWords Go.Proofs.YtdbjbeebjigofaaW.PrintLast Go.Proofs.YtdbjbeebjigofaaW.PrintMore
set_option linter.unusedVariables false
set_option linter.unusedSimpArgs false

/-! ### an empty row -/
set_option maxRecDepth 100000 in
theorem ins_empty (A : Option Addr) (c : Nat) (fv : Value) (w : World) : Calls Try.prog 40 #[.slice A 0 c, .int .i64 0, .int .i64 0, fv] w fun e w' => e = .returned (.tuple #[]) ∧ w = w' := by
  go_enter Try.func40, Try.ntmps40
  go_wp2
  go_loop [8] (fun i => i = .int .i64 1) (fun _ => 0)
  case atStart => rfl
  case round =>
    obtain rfl := hrel
    go_wp2
    go_end0
    exact ⟨rfl, rfl⟩
set_option maxRecDepth 100000 in
theorem stable_empty (A : Option Addr) (c : Nat) (fv : Value) (w : World) : Calls Try.prog 33 #[.slice A 0 c, .int .i64 0, fv] w fun e w' => e = .returned (.tuple #[]) ∧ w = w' := by
  go_enter Try.func33, Try.ntmps33
  go_wp2
  go_loop [7, 8] (fun a b => a = .int .i64 0 ∧ b = .int .i64 20) (fun _ _ => 0)
  case atStart => exact ⟨rfl, rfl⟩
  case round =>
    obtain ⟨rfl, rfl⟩ := hrel
    go_wp2_with (go_at_call 40; refine (ins_empty _ _ _ _).mono ?_; rintro e w' ⟨rfl, rfl⟩)
    go_loop [6] (fun b => b = .int .i64 20) (fun _ => 0)
    case atStart => rfl
    case round =>
      obtain rfl := hrel
      go_wp2
      go_end0
      exact ⟨rfl, rfl⟩
theorem sort_empty (A : Option Addr) (c : Nat) (fv : Value) (w : World) : Calls Try.prog 21 #[.slice A 0 c, fv] w fun e w' => e = .returned (.tuple #[]) ∧ w = w' := by
  go_enter Try.func21, Try.ntmps21
  go_wp2_with (go_at_call 33; refine (stable_empty _ _ _ _).mono ?_; rintro e w' ⟨rfl, rfl⟩)
  go_end0
  exact ⟨rfl, rfl⟩

/-- While the rows are made: the box of the row that came in, and three rows of the call's own. -/
structure B1 (w W : World) (n bL gO : Nat) (v : Value) (o : List Int) : Prop where
  below : Below w.heap.size w W
  yL : w.heap.size ≤ bL
  yO : w.heap.size ≤ gO
  n1 : bL ≠ gO
  L : Box W bL 22 v
  O : Blk W gO o
  lo : o.length = n
structure B2 (w W : World) (n bL gO gT : Nat) (v : Value) (o t : List Int) : Prop extends B1 w W n bL gO v o where
  yT : w.heap.size ≤ gT
  n2 : bL ≠ gT
  n3 : gO ≠ gT
  T : Blk W gT t
  lt : t.length = n
structure B3 (w W : World) (n bL gO gT gS : Nat) (v : Value) (o t s : List Int) : Prop extends B2 w W n bL gO gT v o t where
  yS : w.heap.size ≤ gS
  n4 : bL ≠ gS
  n5 : gO ≠ gS
  n6 : gT ≠ gS
  S : Blk W gS s
  ls : s.length = n
section
variable {w W : World} {n bL gO gT gS : Nat} {v : Value} {o t s : List Int}
theorem B1.put (h : B1 w W n bL gO v o) (i : Nat) (x : Int) : B1 w (W.setCell ⟨gO, i, none⟩ (.int .i64 x)) n bL gO v (o.set i x) :=
  ⟨h.below.setCell h.yO _, h.yL, h.yO, h.n1, h.L.far h.n1 _ _, h.O.put i x, by rw [List.length_set]; exact h.lo⟩
theorem B2.put (h : B2 w W n bL gO gT v o t) (i : Nat) (x : Int) : B2 w (W.setCell ⟨gT, i, none⟩ (.int .i64 x)) n bL gO gT v o (t.set i x) :=
  ⟨⟨h.below.setCell h.yT _, h.yL, h.yO, h.n1, h.L.far h.n2 _ _, h.O.far h.n3 _ _, h.lo⟩, h.yT, h.n2, h.n3, h.T.put i x, by rw [List.length_set]; exact h.lt⟩
theorem B3.put (h : B3 w W n bL gO gT gS v o t s) (i : Nat) (x : Int) : B3 w (W.setCell ⟨gS, i, none⟩ (.int .i64 x)) n bL gO gT gS v o t (s.set i x) :=
  ⟨⟨⟨h.below.setCell h.yS _, h.yL, h.yO, h.n1, h.L.far h.n4 _ _, h.O.far h.n5 _ _, h.lo⟩, h.yT, h.n2, h.n3, h.T.far h.n6 _ _, h.lt⟩, h.yS, h.n4, h.n5, h.n6, h.S.put i x, by rw [List.length_set]; exact h.ls⟩
theorem B1.start (w : World) (v : Value) (n : Nat) : B1 w ((w.alloc (.cells #[v] 22)).alloc (.cells (madeCells #[Value.int .i64 0] n) 3)) n w.heap.size (w.heap.size + 1) v (List.replicate n 0) := by
  refine ⟨((Below.refl _ _).alloc (Nat.le_refl _) _).alloc (by simp) _, Nat.le_refl _, by omega, by omega, Box.alloc (World.alloc_heap_new _ _) _, ?_, by simp⟩
  have := Blk.made (w.alloc (.cells #[v] 22)) n
  rw [World.size_alloc] at this
  exact this
theorem B1.more (h : B1 w W n bL gO v o) : B2 w (W.alloc (.cells (madeCells #[Value.int .i64 0] n) 3)) n bL gO W.heap.size v o (List.replicate n 0) := by
  have l1 := h.L.lt; have l2 := h.O.lt
  exact ⟨⟨h.below.alloc h.below.size _, h.yL, h.yO, h.n1, h.L.alloc _, h.O.alloc _, h.lo⟩, h.below.size, by omega, by omega, Blk.made W n, by simp⟩
theorem B2.more (h : B2 w W n bL gO gT v o t) : B3 w (W.alloc (.cells (madeCells #[Value.int .i64 0] n) 3)) n bL gO gT W.heap.size v o t (List.replicate n 0) := by
  have l1 := h.L.lt; have l2 := h.O.lt; have l3 := h.T.lt
  exact ⟨⟨⟨h.below.alloc h.below.size _, h.yL, h.yO, h.n1, h.L.alloc _, h.O.alloc _, h.lo⟩, h.yT, h.n2, h.n3, h.T.alloc _, h.lt⟩, h.below.size, by omega, by omega, by omega, Blk.made W n, by simp⟩
theorem B1.sorted (h : B1 w W n bL gO v o) {W' : World} {o' : List Int} (hO : Blk W' gO o') (hl : o'.length = n) (hK : Kept W W' (fun k => k = gO)) (hB : ∀ B, B ≤ gO → Below B W W') : B1 w W' n bL gO v o' :=
  ⟨h.below.trans (hB _ h.yO), h.yL, h.yO, h.n1, (hK.2 _ h.L.lt h.n1).trans h.L, hO, hl⟩
end

theorem news_one (W : World) (v : Value) : ∀ (j : Nat) (u : Value), [v][j]? = some u → ((W.alloc (.cells #[v] 3))).cell? ((⟨W.heap.size, 0, none⟩ : Addr).add j) = some u := by
  intro j u hu
  match j, hu with
  | 0, hu =>
    simp at hu
    subst hu
    exact (Box.cell (W := W.alloc (.cells #[v] 3)) (g := W.heap.size) (t := 3) (v := v) (World.alloc_heap_new _ _))
  | j + 1, hu => simp at hu
def backV (l : List Int) : List Int × Int :=
  if 65536 < l.length then ([], 5) else if (turnV (backRow l (toOf l))).2 = 0 ∧ (turnV (backRow l (toOf l))).1 = l then (backRow l (toOf l), 0) else ([], 3)

set_option maxRecDepth 100000 in
theorem back_long (A : Option Addr) (c : Nat) (l : List Int) (w : World) (hl : 65536 < l.length) :
    Calls Try.prog 13 #[.slice A l.length c] w fun e w' => e = .returned (.tuple #[.slice none 0 0, .int .i64 5]) ∧ Below w.heap.size w w' := by
  have h1 : (65536 : Int) < (l.length : Int) := by omega
  go_enter Try.func13, Try.ntmps13
  go_wp2
  go_ret2
  exact ⟨rfl, (Below.refl _ _).alloc (Nat.le_refl _) _⟩

set_option maxRecDepth 100000 in
set_option maxHeartbeats 8000000 in
theorem back_main (A : Option Addr) (c : Nat) (l : List Int) (w : World) (hl0 : 0 < l.length) (hl : l.length ≤ 65536) (hcap : l.length ≤ c) (hC : Kd.C (Kd.int .i64) w A l.length l) :
    Calls Try.prog 13 #[.slice A l.length c] w fun e w' => ∃ v0_ : Value, e = .returned (.tuple #[v0_, .int .i64 (backV l).2]) ∧ Kd.R (Kd.int .i64) 3 w' w.heap.size (fun _ => True) v0_ (backV l).1 ∧ Below w.heap.size w w' := by
  have h1 : ¬ (65536 : Int) < (l.length : Int) := by omega
  have HC := Aside0.mk hC
  obtain ⟨a0, rfl, _⟩ := C_cell hC 0 hl0
  clear hC
  have hm1 := print_make (P := Try.prog) 22 3 .i64 8 Try.underlying22 infoZ (by decide) l.length (by omega)
  obtain ⟨V, hV⟩ : ∃ V, V = Value.slice (some a0) l.length c := ⟨_, rfl⟩
  have HST := Aside0.mk (B1.start w V l.length)
  rw [hV] at HST
  clear hV V
  go_enter Try.func13, Try.ntmps13
  go_wp2
  obtain ⟨bL, hbL⟩ : ∃ g, g = w.heap.size := ⟨_, rfl⟩
  obtain ⟨gO, hgO⟩ : ∃ g, g = w.heap.size + 1 := ⟨_, rfl⟩
  have HW : Aside0 (bL = w.heap.size) := ⟨hbL⟩
  rw [← hgO, ← hbL] at HST ⊢
  generalize ((w.alloc (.cells #[.slice (some a0) l.length c] 22)).alloc (.cells (madeCells #[Value.int .i64 0] l.length) 3)) = w1 at HST ⊢
  clear hgO hbL
  go_loopw [22] (fun s22 wr => ∃ (i : Nat) (o : List Int), i ≤ l.length ∧ s22 = .int .i64 i ∧ Aside0 (B1 w wr l.length bL gO (.slice (some a0) l.length c) o) ∧ Aside0 (∀ j : Nat, j < i → rd o (j : Nat) = j)) (fun s _ => l.length - (intOf s).toNat)
  case atStart => exact ⟨0, _, Nat.zero_le _, rfl, HST, ⟨fun j hj => by omega⟩⟩
  case round =>
    clear HST
    obtain ⟨i, o, hi, rfl, HST, HI⟩ := hrel
    by_cases hlt : i < l.length
    · have cp := HST.out.O.cell i (by rw [HST.out.lo]; omega)
      have fp := HST.out.O.frozen i
      go_wp2
      go_roundw
      case measure => simp [intOf]; omega
      case rel =>
        refine ⟨i + 1, o.set i i, by omega, by go_num, ⟨HST.out.put i _⟩, ⟨fun j hj => ?_⟩⟩
        rw [rd_set _ _ _ _ (by rw [HST.out.lo]; omega)]
        by_cases e : j = i
        · rw [if_pos e, e]
        · rw [if_neg e]; exact HI.out j (by omega)
    · obtain rfl : i = l.length := by omega
      have ho : o = iota l.length := by
        refine ext_rd (by rw [HST.out.lo, iota_len]) fun j hj => ?_
        rw [HI.out j (by rw [HST.out.lo] at hj; omega), rd_at (by rw [iota_len]; rw [HST.out.lo] at hj; omega)]
        simp [iota]
      rw [ho] at HST
      clear ho HI hlt hi
      go_wp2_with fail
      obtain ⟨m, hm⟩ : ∃ m, l.length = m + 1 := ⟨l.length - 1, by omega⟩
      have hs := sort_order m (by omega) l hm (some a0) c gO bL wr (by rw [← hm]; exact HST.out.O) HST.out.L HST.out.n1 (Kd.C_kept_came (Kd.heap_int .i64) HC.out HST.out.below (fun k hk => by rw [hk]; exact HST.out.yO))
      rw [← hm] at hs
      refine hs.mono ?_
      rintro e w2 ⟨rfl, hO2, hK2, hB2⟩
      have HST2 := Aside0.mk (HST.out.sorted hO2 (ordOf_isOrd l).len hK2 hB2)
      clear hs hO2 hK2 hB2 hm HST m
      have cL := HST2.out.L.cell
      have fL := HST2.out.L.frozen
      go_wp2
      have HST3 := Aside0.mk HST2.out.more
      obtain ⟨gT, hgT⟩ : ∃ g, g = w2.heap.size := ⟨_, rfl⟩
      rw [← hgT] at HST3 ⊢
      generalize w2.alloc (.cells (madeCells #[Value.int .i64 0] l.length) 3) = w3 at HST3 ⊢
      clear hgT cL fL HST2
      go_loopw [38] (fun s38 wr => ∃ (i : Nat) (t : List Int), i ≤ l.length ∧ s38 = .int .i64 i ∧ Aside0 (B2 w wr l.length bL gO gT (.slice (some a0) l.length c) (ordOf l) t) ∧ Aside0 (∀ j : Nat, j < i → rd t (rd (ordOf l) (j : Nat)) = j)) (fun s _ => l.length - (intOf s).toNat)
      case atStart => exact ⟨0, _, Nat.zero_le _, rfl, HST3, ⟨fun j hj => by omega⟩⟩
      case round =>
        clear HST3
        obtain ⟨i, t, hi, rfl, HST, HI⟩ := hrel
        by_cases hlt : i < l.length
        · have co := HST.out.O.cell i (by rw [HST.out.lo]; omega)
          obtain ⟨r0, r1⟩ := rd_mem (ordOf_isOrd l).perm (i := i) (by omega)
          obtain ⟨p, hp⟩ : ∃ p : Nat, rd (ordOf l) (i : Nat) = p := ⟨(rd (ordOf l) (i : Nat)).toNat, by omega⟩
          have HP := Aside0.mk hp
          rw [hp] at co r1
          clear hp r0
          have ct := HST.out.T.cell p (by rw [HST.out.lt]; omega)
          have ft := HST.out.T.frozen p
          go_wp2
          go_roundw
          case measure => simp [intOf]; omega
          case rel =>
            refine ⟨i + 1, t.set p i, by omega, by go_num, ⟨HST.out.put p _⟩, ⟨fun j hj => ?_⟩⟩
            obtain ⟨q0, q1⟩ := rd_mem (ordOf_isOrd l).perm (i := j) (by omega)
            obtain ⟨q, hq⟩ : ∃ q : Nat, rd (ordOf l) (j : Nat) = q := ⟨(rd (ordOf l) (j : Nat)).toNat, by omega⟩
            rw [hq, rd_set _ _ _ _ (by rw [HST.out.lt]; omega)]
            by_cases e : j = i
            · subst e
              have : p = q := by have := HP.out; omega
              rw [if_pos this.symm]
            · have hne : q ≠ p := fun e2 => e (rd_inj (ordOf_isOrd l).perm (by omega) (by omega) (by rw [hq, HP.out, e2]))
              rw [if_neg hne, ← hq]
              exact HI.out j (by omega)
        · obtain rfl : i = l.length := by omega
          have ht : t = toOf l := by
            have h : IsTo (ordOf l) t := ⟨by rw [HST.out.lt, HST.out.lo], fun j hj => HI.out j (by rw [HST.out.lo] at hj; exact hj)⟩
            exact h.uniq (ordOf_isOrd l).perm (toOf_isTo l)
          rw [ht] at HST
          clear ht HI hlt hi
          have cL := HST.out.L.cell
          have fL := HST.out.L.frozen
          have lL := HST.out.L.lt
          go_wp2
          have HST4 := Aside0.mk HST.out.more
          obtain ⟨gS, hgS⟩ : ∃ g, g = wr.heap.size := ⟨_, rfl⟩
          rw [← hgS] at HST4 ⊢
          generalize wr.alloc (.cells (madeCells #[Value.int .i64 0] l.length) 3) = w4 at HST4 ⊢
          clear hgS cL fL lL HST
          have htk := fun k => tk_lt (ordOf_isOrd l).perm (toOf_isTo l) hl0 k
          have HTK := Aside0.mk htk
          clear htk
          go_loopw [10, 11] (fun s10 s11 wr => ∃ (k : Nat) (s : List Int), k ≤ l.length ∧ s10 = .int .i64 (tk (toOf l) k) ∧ s11 = .int .i64 ((l.length : Int) - 1 - k) ∧ Aside0 (B3 w wr l.length bL gO gT gS (.slice (some a0) l.length c) (ordOf l) (toOf l) s) ∧ Aside0 (∀ j : Nat, j < l.length → l.length ≤ j + k → rd s (j : Nat) = rd l (tk (toOf l) (l.length - 1 - j)))) (fun _ s11 _ => (intOf s11 + 1).toNat)
          case atStart => exact ⟨0, _, Nat.zero_le _, rfl, by go_num, HST4, ⟨fun j hj h => by omega⟩⟩
          case round =>
            clear HST4
            obtain ⟨k, s, hk, rfl, rfl, HST, HI⟩ := hrel
            by_cases hlt : k < l.length
            · obtain ⟨t0, t1⟩ := HTK.out k
              obtain ⟨p, hp⟩ : ∃ p : Nat, tk (toOf l) k = p := ⟨(tk (toOf l) k).toNat, by omega⟩
              have HP := Aside0.mk hp
              rw [hp] at t1 ⊢
              clear t0 hp
              obtain ⟨i, hi⟩ : ∃ i : Nat, (l.length : Int) - 1 - k = i := ⟨l.length - 1 - k, by omega⟩
              have hik : i + k + 1 = l.length := by omega
              have hin : i < l.length := by omega
              rw [hi]
              have HIK := Aside0.mk hik
              clear hi hik
              have cL := HST.out.L.cell
              obtain ⟨a1, ha1, cl⟩ := C_cell (Kd.C_below HC.out HST.out.below) p (by omega)
              injection ha1 with ha1
              subst ha1
              have cs := HST.out.S.cell i (by rw [HST.out.ls]; omega)
              have fs := HST.out.S.frozen i
              have ct := HST.out.T.cell p (by rw [HST.out.lt]; omega)
              have hne := HST.out.n6
              have HV : Aside0 (rd (toOf l) (p : Nat) = tk (toOf l) (k + 1)) := ⟨by rw [← HP.out]; rfl⟩
              rw [HV.out] at ct
              go_wp2
              go_roundw
              case measure => simp [intOf]
              case rel =>
                refine ⟨k + 1, s.set i (rd l (p : Nat)), by omega, rfl, ?_, ⟨HST.out.put i _⟩, ⟨fun j hj h => ?_⟩⟩
                · have := HIK.out
                  exact iv (by omega)
                · rw [rd_set _ _ _ _ (by rw [HST.out.ls]; omega)]
                  have := HIK.out
                  by_cases e : j = i
                  · rw [if_pos e, e, show l.length - 1 - i = k from by omega, HP.out]
                  · rw [if_neg e]; exact HI.out j hj (by omega)
            · obtain rfl : k = l.length := by omega
              have hs : s = gone l (toOf l) := by
                refine ext_rd (by rw [HST.out.ls, gone_len]) fun j hj => ?_
                rw [HST.out.ls] at hj
                rw [HI.out j hj (by omega), rd_at (by rw [gone_len]; exact hj)]
                simp [gone]
              rw [hs] at HST
              clear hs HI hlt hk
              obtain ⟨sg, hsg⟩ : ∃ q, q = gone l (toOf l) := ⟨_, rfl⟩
              rw [← hsg] at HST
              have HSG := Aside0.mk hsg
              have HLS : Aside0 (sg.length = l.length) := ⟨HST.out.ls⟩
              clear hsg
              have hm0 : ¬ ((l.length : Int) - 1 - l.length ≥ 0) := by omega
              have hm2 : ¬ ((0 : Int) ≤ (l.length : Int) - 1 - l.length) := by omega
              have hpz : (0 : Int) < l.length := by omega
              have c0 := HST.out.S.cell 0 (by rw [HST.out.ls]; omega)
              obtain ⟨z0, hz⟩ : ∃ z, z = rd sg ((0 : Nat) : Int) := ⟨_, rfl⟩
              rw [← hz] at c0
              have HZ0 := Aside0.mk hz
              clear hz
              obtain ⟨i0, hi0, hz0, hz1, hz2⟩ := info_parts infoZ
              obtain ⟨A2, hcut, hA2, hC2⟩ := print_drop_of (P := Try.prog) (Value.int .i64) 0 22 3 .i64 Try.underlying22 hi0 hz1 (some ⟨gS, 0, none⟩) l.length sg 1 (by omega) (by have := HLS.out; omega) (by have := HLS.out; omega)
              obtain ⟨D2, hD2⟩ : ∃ D, D = sg.drop (1 : Int).toNat := ⟨_, rfl⟩
              obtain ⟨n2, hn2⟩ : ∃ q, q = D2.length := ⟨_, rfl⟩
              obtain ⟨n2c, hn2c⟩ : ∃ q, q = l.length - (1 : Int).toNat := ⟨_, rfl⟩
              rw [← hD2, ← hn2, ← hn2c, HLS.out] at hcut
              rw [← hD2] at hA2
              have hDl : D2.length = l.length - 1 := by rw [hD2, List.length_drop, HLS.out]; rfl
              have H2 : Aside0 (D2.length = n2 ∧ (A2 = none → n2 = 0 ∧ n2c = 0) ∧ ∀ W : World, Blk W gS sg → ∀ b, A2 = some b → ∀ j u, (D2.map (Value.int .i64))[j]? = some u → W.cell? (b.add j) = some u) := by
                have key : ∀ W : World, Blk W gS sg → ∀ j u, (D2.map (Value.int .i64))[j]? = some u → ∃ b, A2 = some b ∧ W.cell? (b.add j) = some u := by
                  intro W hW j u hu
                  rw [List.getElem?_map] at hu
                  have hj : j < D2.length := by
                    rcases Nat.lt_or_ge j D2.length with h | h
                    · exact h
                    · rw [List.getElem?_eq_none h] at hu; cases hu
                  have hC := Kd.C_of_reads (h1 := fun _ => rfl) (hA2 W (Kd.reads_of_C (hW.C (by have := HLS.out; omega))))
                  obtain ⟨b, hb, hc⟩ := C_cell hC j hj
                  rw [List.getElem?_eq_getElem hj] at hu
                  injection hu with hu
                  refine ⟨b, hb, ?_⟩
                  rw [hc, rd_at hj, hu]
                refine ⟨hn2.symm, fun e => ?_, fun W hW b hb j u hu => ?_⟩
                · rcases Nat.eq_zero_or_pos D2.length with h | h
                  · exact ⟨by omega, by rw [hn2c]; show l.length - 1 = 0; omega⟩
                  · obtain ⟨b, hb, _⟩ := key wr HST.out.S 0 (Value.int .i64 D2[0]) (by rw [List.getElem?_map, List.getElem?_eq_getElem h]; rfl)
                    rw [e] at hb; cases hb
                · obtain ⟨b', hb', hc⟩ := key W hW j u hu
                  rw [hb] at hb'
                  injection hb' with hb'
                  subst hb'
                  exact hc
              have H3 : Aside0 (n2 = n2c ∧ n2 + 1 = l.length) := ⟨by rw [hn2, hn2c, hDl]; rfl, by omega⟩
              have HD2 := Aside0.mk hD2
              have hbS := HST.out.S
              have hbB := HST.out.below
              clear hA2 hC2 hD2 hn2 hn2c hDl
              go_wp2
              refine start_ (n := 8) (S := fun w' => w'.cell? ⟨gS, 0, none⟩ = some (.int .i64 z0) ∧ Blk w' gS sg ∧ Below w.heap.size w w') (ds := [6]) #[false, false, false, false, false, false, false, false] (by kernel_rfl) rfl rfl ⟨c0, (show Blk wr.drew gS sg from hbS), (below_drew hbB)⟩ (fun hHeld => ?_)
              refine pure_ (i := 0) (N := some 72) (v := ?_) (a' := ?_) #[true, false, false, false, false, false, false, false] rfl rfl (by kernel_rfl) (fun _ _ _ h => h) (Or.inl ⟨by rfl, ?_⟩) ?_ ?_
              rotate_left
              · intro w'
                go_simp
                with_reducible rfl
              rotate_left
              · simp only [Act.put, List.setIfInBounds_toArray, List.set_cons_zero, List.set_cons_succ, i64_w, i32_w]
                rfl
              refine pure_ (i := 1) (N := some 73) (v := ?_) (a' := ?_) #[true, true, false, false, false, false, false, false] rfl rfl (by kernel_rfl) (fun _ _ _ h => h) (Or.inl ⟨by rfl, ?_⟩) ?_ ?_
              rotate_left
              · intro w'
                go_simp
                with_reducible rfl
              rotate_left
              · simp only [Act.put, List.setIfInBounds_toArray, List.set_cons_zero, List.set_cons_succ, i64_w, i32_w]
                rfl
              refine pure_ (i := 2) (N := some 74) (v := ?_) (a' := ?_) #[true, true, true, false, false, false, false, false] rfl rfl (by kernel_rfl) (fun _ _ _ h => h) (Or.inl ⟨by rfl, ?_⟩) ?_ ?_
              rotate_left
              · intro w'
                go_simp
                with_reducible rfl
              rotate_left
              · simp only [Act.put, List.setIfInBounds_toArray, List.set_cons_zero, List.set_cons_succ, i64_w, i32_w]
                rfl
              refine pure_ (i := 3) (N := some 75) (v := ?_) (a' := ?_) #[true, true, true, true, false, false, false, false] rfl rfl (by kernel_rfl) (fun _ _ _ h => h) (Or.inl ⟨by rfl, ?_⟩) ?_ ?_
              rotate_left
              · intro w'
                go_simp
                with_reducible rfl
              rotate_left
              · simp only [Act.put, List.setIfInBounds_toArray, List.set_cons_zero, List.set_cons_succ, i64_w, i32_w]
                rfl
              refine take_ (i := 4) (N := some 76) (v := ?_) (a' := ?_) #[true, true, true, true, true, false, false, false] rfl rfl (by kernel_rfl) (fun _ _ _ h => h) (Or.inl ⟨by rfl, ?_⟩) hHeld ?_ ?_
              rotate_left
              · rintro w' ⟨s0, s1, s2⟩
                go_simp
                with_reducible rfl
              rotate_left
              · simp only [Act.put, List.setIfInBounds_toArray, List.set_cons_zero, List.set_cons_succ, i64_w, i32_w]
                rfl
              refine one_ (i := 5) (N := some 77) #[true, true, true, true, true, true, false, false] rfl rfl (by kernel_rfl) (by decide) (fun K hK => ?_)
              refine value_ (w1 := ?_) (v := ?_) (by rfl) rfl ?_ ?_
              rotate_left 2
              · go_simp
                constructor
                · rfl
                · rfl
              refine hK.out _ _ ⟨(Go.Lib.cell?_alloc_some _ hHeld.1), (hHeld.2.1.alloc _), (hHeld.2.2.alloc hHeld.2.2.size _)⟩ (fun hHeld => ?_)
              clear hK K
              refine norm_ (a' := ?_) ?_ ?_
              rotate_left
              · show Act.put _ (some 77) _ = _
                simp only [Act.put, List.setIfInBounds_toArray, List.set_cons_zero, List.set_cons_succ, i64_w, i32_w]
                rfl
              refine last_ (i := 6) (N := some 78) #[true, true, true, true, true, true, true, false] rfl rfl (by kernel_rfl) (by decide) (fun K hK => ?_)
              refine step_append_grows (by rfl) (.tmp 73) (.tmp 77) 22 (by rfl) 3 i0 (.int .i64 0) 1 8 Try.underlying22 hi0 hz0 hz1 hz2 rfl (by decide) A2 n2 n2c (D2.map (.int .i64)) (by rfl) (fun e => H2.out.2.1 e) (by rw [List.length_map]; have := H2.out.1; omega) (H2.out.2.2 _ hHeld.2.1) _ 1 1 [.int .i64 z0] (by rfl) rfl (news_one _ _) (by intro u hu; simp at hu; subst hu; rfl) (by have := H3.out; omega) (by have := H3.out; simp only [maxLen]; omega) (by have := H3.out; omega) ?_
              intro v9 w9 hown9 hg9
              have HB9 := Aside0.mk hHeld.2.2
              refine hK.out _ _ ?_
              clear hK K
              refine norm_ (a' := ?_) ?_ ?_
              rotate_left
              · show Act.put _ (some 78) _ = _
                simp only [Act.put, List.setIfInBounds_toArray, List.set_cons_zero, List.set_cons_succ, i64_w, i32_w]
                rfl
              refine pure_ (i := 7) (N := some 9) (v := ?_) (a' := ?_) #[true, true, true, true, true, true, true, true] rfl rfl (by kernel_rfl) (fun _ _ _ h => h) (Or.inl ⟨by rfl, ?_⟩) ?_ ?_
              rotate_left
              · intro w'
                go_simp
                with_reducible rfl
              rotate_left
              · simp only [Act.put, List.setIfInBounds_toArray, List.set_cons_zero, List.set_cons_succ, i64_w, i32_w]
                rfl
              refine done_ (by kernel_rfl) ?_
              clear hi0 hz0 hz1 hz2 hcut c0 hbS hbB
              obtain ⟨s9, hs9⟩ : ∃ s, s = backRow l (toOf l) := ⟨_, rfl⟩
              have hrow : D2 ++ [z0] = s9 := by
                have h3 := HLS.out
                rw [hs9, HD2.out, HZ0.out]
                unfold backRow
                rw [← HSG.out, rd_at (by omega)]
                congr 1
                rw [List.take_one, List.head?_eq_getElem?, List.getElem?_eq_getElem (by omega)]
                rfl
              have hlen : s9.length = l.length := by rw [hs9, backRow_len]
              have HS9 := Aside0.mk hs9
              have HO9 : Aside0 (Kd.R (Kd.int .i64) 3 w9 w.heap.size (fun _ => True) v9 s9) := by
                have h3 := H3.out.2
                rw [← List.map_singleton (f := Value.int .i64), ← List.map_append, hrow] at hown9
                refine ⟨Kd.R_lower (base := (wr.alloc (Obj.cells #[Value.int .i64 z0] 3)).drew.heap.size) ⟨fun _ _ => trivial, _, ?_, Kd.reps_scalar _⟩ HB9.out.size⟩
                rw [hlen]
                rw [h3] at hown9
                simpa [Kd.int, Kd.scalar, encs] using hown9
              have HBB9 : Aside0 (Below w.heap.size w w9) := ⟨HB9.out.trans ⟨hg9.os, hg9.tape, hg9.output, hg9.size, fun k hk => hg9.block k (by have := HB9.out.size; omega) (by simp)⟩⟩
              have HBX : Aside0 (Box w9 bL 22 (.slice (some a0) l.length c)) := ⟨by
                have hb : Box ((wr.alloc (Obj.cells #[Value.int .i64 z0] 3)).drew) bL 22 (.slice (some a0) l.length c) := HST.out.L.alloc _
                exact (hg9.block bL hb.lt (by simp)).trans hb⟩
              clear hown9 hg9 HB9 H2 H3 HD2 HZ0 HSG HLS HST HTK hs9 hrow
              obtain ⟨A9, c9, rfl⟩ := Kd.R_slice HO9.out
              obtain ⟨kt, hkt⟩ := (turn_ev s9 (by omega)).rounds
              obtain ⟨q1, q2, hq⟩ : ∃ q1 q2, turnV s9 = (q1, q2) := ⟨_, _, rfl⟩
              rw [hq] at hkt
              have HT : Aside0 (Calls Try.prog 9 #[.slice A9 s9.length c9] w9 fun e w' => ∃ v0_ : Value, e = .returned (.tuple #[v0_, .int .i64 q2]) ∧ Kd.R (Kd.int .i64) 3 w' w9.heap.size (fun _ => True) v0_ q1 ∧ Below w9.heap.size w9 w') :=
                ⟨bwt_Turn.calls kt A9 c9 s9 q1 q2 w9 (Kd.R_reads' HO9.out).2.2 (Kd.R_reads' HO9.out).2.1 hkt⟩
              have HQ := Aside0.mk hq
              have HLN := Aside0.mk hlen
              clear hkt hq hlen
              have HPOST : Aside0 (backV l = if q2 = 0 ∧ q1 = l then (s9, 0) else ([], 3)) := ⟨by
                unfold backV
                rw [if_neg (by omega), ← HS9.out, HQ.out]⟩
              by_cases hq2 : q2 = 0
              · subst hq2
                go_wp2_with ((go_at_call 9); fail)
                refine HT.out.mono ?_
                rintro e w10 ⟨v10, rfl, HR10, HB10⟩
                obtain ⟨A10, c10, rfl⟩ := Kd.R_slice HR10
                have cL := (HBX.out.below HB10).cell
                have hql : q1.length ≤ 65536 := by
                  have h := HQ.out
                  unfold turnV at h
                  have h2 := HLN.out
                  split at h
                  · omega
                  · split at h
                    · injection h with h _
                      rw [← h, turnL_len, (saOf_isSA s9).len]; omega
                    · injection h with _ h; omega
                obtain ⟨ke, hke⟩ := (equal_ev q1 l (by omega)).rounds
                have HE : Aside0 (Calls Try.prog 23 #[.slice A10 q1.length c10, .slice (some a0) l.length c] w10 fun e w' => e = .returned (.bool (decide (q1 = l))) ∧ Drawn0 w10 w') :=
                  ⟨slices_Equal_int_int.calls ke A10 c10 q1 (some a0) c l (decide (q1 = l)) w10 (Kd.R_reads' HR10).2.2 (Kd.R_reads' HR10).2.1 (Kd.C_below HC.out (HBB9.out.trans (HB10.mono HBB9.out.size))) hcap hke⟩
                have HR9 := Aside0.mk (Kd.R_below HO9.out HB10)
                have HBB := Aside0.mk (HBB9.out.trans (HB10.mono HBB9.out.size))
                clear hke HR10 HB10 HT HO9 hql
                by_cases hqe : q1 = l
                · have HEE := HE.out
                  rw [decide_eq_true hqe] at HEE
                  have HE1 := Aside0.mk HEE
                  have HQE := Aside0.mk hqe
                  clear HEE HE hqe
                  go_wp2_with (go_at_call 23; refine HE1.out.mono ?_; rintro e w11 ⟨rfl, hd⟩)
                  go_ret2
                  obtain ⟨nd, rfl⟩ := hd.out
                  have hp := HPOST.out
                  rw [if_pos ⟨trivial, HQE.out⟩] at hp
                  rw [hp]
                  exact ⟨_, rfl, Kd.R_below HR9.out (pw_below_drewN (Below.refl _ _) nd), pw_below_drewN HBB.out nd⟩
                · have HEE := HE.out
                  rw [decide_eq_false hqe] at HEE
                  have HE1 := Aside0.mk HEE
                  have HQE := Aside0.mk hqe
                  clear HEE HE hqe
                  go_wp2_with (go_at_call 23; refine HE1.out.mono ?_; rintro e w11 ⟨rfl, hd⟩)
                  go_ret2
                  obtain ⟨nd, rfl⟩ := hd.out
                  have hp := HPOST.out
                  rw [if_neg (fun h => HQE.out h.2)] at hp
                  rw [hp]
                  exact ⟨_, rfl, Kd.R_nil _ _ _ _ _, pw_below_drewN HBB.out nd⟩
              · have hq2b : (q2 == 0) = false := beq_eq_false_iff_ne.2 hq2
                have hq2c : (q2 != 0) = true := bne_iff_ne.2 hq2
                have HQ2 := Aside0.mk hq2
                go_wp2_with (go_at_call 9; refine HT.out.mono ?_; rintro e w10 ⟨v10, rfl, HR10, HB10⟩)
                go_ret2
                have hp := HPOST.out
                rw [if_neg (fun h => HQ2.out h.1)] at hp
                rw [hp]
                exact ⟨_, rfl, Kd.R_nil _ _ _ _ _, HBB9.out.trans (HB10.mono HBB9.out.size)⟩

set_option maxRecDepth 100000 in
theorem back_empty (A : Option Addr) (c : Nat) (w : World) :
    Calls Try.prog 13 #[.slice A 0 c] w fun e w' => e = .returned (.tuple #[.slice none 0 0, .int .i64 3]) ∧ Below w.heap.size w w' := by
  have hm1 : ∀ W : World, (Instr.makeSlice 22 (.int .i64 0) (.int .i64 0)).run Try.prog W = .ok (.slice (some ⟨W.heap.size, 0, none⟩) 0 0) (W.alloc (.cells (madeCells #[Value.int .i64 0] 0) 3)) := print_make (P := Try.prog) 22 3 .i64 8 Try.underlying22 infoZ (by decide) 0 (by omega)
  have HST := Aside0.mk (B1.start w (.slice A 0 c) 0)
  go_enter Try.func13, Try.ntmps13
  go_wp2
  obtain ⟨bL, hbL⟩ : ∃ g, g = w.heap.size := ⟨_, rfl⟩
  obtain ⟨gO, hgO⟩ : ∃ g, g = w.heap.size + 1 := ⟨_, rfl⟩
  rw [← hgO, ← hbL] at HST ⊢
  generalize ((w.alloc (.cells #[.slice A 0 c] 22)).alloc (.cells (madeCells #[Value.int .i64 0] 0) 3)) = w1 at HST ⊢
  clear hgO hbL
  go_loopw [22] (fun s22 wr => s22 = .int .i64 0 ∧ wr = w1) (fun _ _ => 0)
  case atStart => exact ⟨rfl, rfl⟩
  case round =>
    obtain ⟨rfl, rfl⟩ := hrel
    have cL := HST.out.L.cell
    have lL := HST.out.L.lt
    go_wp2_with (go_at_call 21; refine (sort_empty _ _ _ _).mono ?_; rintro e w' ⟨rfl, rfl⟩)
    have HST3 := Aside0.mk HST.out.more
    obtain ⟨gT, hgT⟩ : ∃ g, g = wr.heap.size := ⟨_, rfl⟩
    rw [← hgT] at HST3 ⊢
    generalize wr.alloc (.cells (madeCells #[Value.int .i64 0] 0) 3) = w3 at HST3 ⊢
    clear hgT cL lL HST
    go_loopw [38] (fun s38 wr => s38 = .int .i64 0 ∧ wr = w3) (fun _ _ => 0)
    case atStart => exact ⟨rfl, rfl⟩
    case round =>
      obtain ⟨rfl, rfl⟩ := hrel
      have cL := HST3.out.L.cell
      have lL := HST3.out.L.lt
      go_wp2
      have HST4 := Aside0.mk HST3.out.more
      obtain ⟨gS, hgS⟩ : ∃ g, g = wr.heap.size := ⟨_, rfl⟩
      rw [← hgS] at HST4 ⊢
      generalize wr.alloc (.cells (madeCells #[Value.int .i64 0] 0) 3) = w4 at HST4 ⊢
      clear hgS cL lL HST3
      go_loopw [10, 11] (fun s10 s11 wr => s10 = .int .i64 0 ∧ s11 = .int .i64 (-1) ∧ wr = w4) (fun _ _ _ => 0)
      case atStart => exact ⟨rfl, rfl, rfl⟩
      case round =>
        obtain ⟨rfl, rfl, rfl⟩ := hrel
        obtain ⟨kt, hkt⟩ := (turn_ev [] (by simp)).rounds
        have hv : turnV [] = ([], 1) := by simp [turnV, closedB]
        rw [hv] at hkt
        have HT : Aside0 (Calls Try.prog 9 #[.slice (some ⟨gS, 0, none⟩) 0 0] wr fun e w' => ∃ v0_ : Value, e = .returned (.tuple #[v0_, .int .i64 1]) ∧ Kd.R (Kd.int .i64) 3 w' wr.heap.size (fun _ => True) v0_ [] ∧ Below wr.heap.size wr w') :=
          ⟨bwt_Turn.calls kt (some ⟨gS, 0, none⟩) 0 [] [] 1 wr ⟨rfl, by simp, fun h => absurd h (by simp)⟩ (by simp) hkt⟩
        have HB := Aside0.mk HST4.out.below
        clear hkt hv HST4
        go_wp2_with (go_at_call 9; refine HT.out.mono ?_; rintro e w10 ⟨v10, rfl, HR10, HB10⟩)
        go_ret2
        exact ⟨rfl, HB.out.trans (HB10.mono HB.out.size)⟩

def bwt_Back.f (l : List Int) : Option (List Int × Int) := some (backV l)
theorem bwt_Back.calls (A0 : Option Addr) (c0 : Nat) (l0 : List Int) (r1 : List Int) (r2 : Int) (w : World) (hr0 : Kd.C (Kd.int .i64) w A0 l0.length l0) (hc0 : l0.length ≤ c0) (h : bwt_Back.f l0 = some (r1, r2)) :
    Calls Try.prog 13 #[.slice A0 l0.length c0] w fun e w' => ∃ v0_ : Value, e = .returned (.tuple #[v0_, .int .i64 r2]) ∧ Kd.R (Kd.int .i64) 3 w' w.heap.size (fun _ => True) v0_ r1 ∧ Below w.heap.size w w' := by
  have hv : backV l0 = (r1, r2) := Option.some.inj h
  by_cases h1 : 65536 < l0.length
  · have e : backV l0 = ([], 5) := by unfold backV; rw [if_pos h1]
    rw [e] at hv
    obtain ⟨rfl, rfl⟩ := Prod.mk.inj hv
    refine (back_long A0 c0 l0 w h1).mono ?_
    rintro e w' ⟨rfl, hb⟩
    exact ⟨_, rfl, Kd.R_nil _ _ _ _ _, hb⟩
  · rcases Nat.eq_zero_or_pos l0.length with h0 | h0
    · obtain rfl := List.eq_nil_of_length_eq_zero h0
      have e : backV [] = ([], 3) := by
        unfold backV
        rw [if_neg (by simp), if_neg (by rintro ⟨h, _⟩; simp [backRow, gone, turnV, closedB] at h)]
      rw [e] at hv
      obtain ⟨rfl, rfl⟩ := Prod.mk.inj hv
      refine (back_empty A0 c0 w).mono ?_
      rintro e w' ⟨rfl, hb⟩
      exact ⟨_, rfl, Kd.R_nil _ _ _ _ _, hb⟩
    · have := back_main A0 c0 l0 w h0 (by omega) hc0 hr0
      rw [hv] at this
      exact this
#print axioms bwt_Back.calls
end Go.Proofs.Ytdbjbeebjigofaa.Hand
