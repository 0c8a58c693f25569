/- What more than one text uses: bytes, rows, runs that are known. -/
import Derived.Test.YtaghcepochjoeaaMapV
import Derived.Test.YtaghcepochjoeaaPAx
import Derived.Test.YtaghcepochjoeaaIter
import Derived.Sort.KeysCollected
import Derived.Lib.SlFresh
import Derived.Deep.Slices
import Derived.ChangeArms
import Derived.Laws.BytesArg
import Derived.ArgAppend
import Derived.Maps.AppendAt
import Derived.Laws.OwnMore
import Derived.Deep.DeepMust
import Derived.Carry
namespace Go.Proofs.Ytaghcepochjoeaa.Hand
open Go.RowKit Go.ChangeShapes Go.WideShapes Go.Deep Go.Proofs.Ytaghcepochjoeaa.PA Go.Proofs.Ytaghcepochjoeaa.MapV Go.Proofs.YtaghcepochjoeaaW.PrintWords Go.Proofs.YtaghcepochjoeaaW.PrintLast Go.Proofs.YtaghcepochjoeaaW.PrintMore
attribute [local go_sem] max2_int min2_int
set_option linter.unusedVariables false
set_option linter.unusedSimpArgs false
set_option linter.unusedSectionVars false
def b8 (z : Int) : UInt8 := UInt8.ofNat z.toNat
theorem b8_back {z : Int} (h : 0 ≤ z ∧ z < 256) : ((b8 z).toNat : Int) = z := by
  unfold b8
  rw [UInt8.toNat_ofNat']
  omega
def Bytes (l : List Int) : Prop := ∀ z ∈ l, 0 ≤ z ∧ z < 256
theorem b8_inj : ∀ (l l' : List Int), Bytes l → Bytes l' → l.map b8 = l'.map b8 → l = l'
  | [], [], _, _, _ => rfl
  | [], _ :: _, _, _, h => by simp at h
  | _ :: _, [], _, _, h => by simp at h
  | x :: l, y :: l', h1, h2, h => by
    simp only [List.map_cons, List.cons.injEq] at h
    have e : x = y := by
      rw [← b8_back (h1 x (by simp)), ← b8_back (h2 y (by simp)), h.1]
    rw [e, b8_inj l l' (fun z hz => h1 z (by simp [hz])) (fun z hz => h2 z (by simp [hz])) h.2]
/-- Bytes that stand in what was made by a call. -/
def Fresh (w w' : World) (A : Option Addr) (xs : List Int) : Prop := ∀ W', (∀ k, w.heap.size ≤ k → k < w'.heap.size → W'.heap[k]? = w'.heap[k]?) → Kd.C (Kd.int .u8) W' A xs.length xs
theorem Fresh.nil (w w' : World) (A : Option Addr) : Fresh w w' A [] := fun W' _ => ⟨rfl, by simp, fun h => absurd h (by simp)⟩
theorem sub_none {w : World} {b o : Nat} {sp} {x : Value} (h : w.cell? (Addr.add ⟨b, o, sp⟩ 0) = some x) : sp = none := by
  cases sp with
  | none => rfl
  | some q =>
    exfalso
    unfold World.cell? at h
    split at h <;> simp [Addr.add] at h
abbrev bts (xs : List Int) : List Value := xs.map (Value.int .u8)
def leK (x y : Key) : Bool := decide (x ≤ y)
theorem leK_trans (a b c : Key) (h1 : leK a b = true) (h2 : leK b c = true) : leK a c = true := by
  unfold leK at *
  simp only [decide_eq_true_eq] at *
  exact List.le_trans h1 h2
theorem leK_total (a b : Key) : (leK a b || leK b a) = true := by
  unfold leK
  simp only [Bool.or_eq_true, decide_eq_true_eq]
  exact List.le_total a b
theorem leK_anti {a b : Key} (h1 : leK a b = true) (h2 : leK b a = true) : a = b := by
  unfold leK at *
  simp only [decide_eq_true_eq] at *
  exact List.le_antisymm h1 h2
theorem sort_perm {l l' : List Key} (h : l.Perm l') : l.mergeSort leK = l'.mergeSort leK := by
  refine List.Perm.eq_of_pairwise (le := fun a b => leK a b = true) (fun a b _ _ h1 h2 => leK_anti h1 h2) (List.pairwise_mergeSort leK_trans leK_total l) (List.pairwise_mergeSort leK_trans leK_total l') ?_
  exact ((List.mergeSort_perm l leK).trans h).trans (List.mergeSort_perm l' leK).symm
def byK (k : Key) : ByteArray := ⟨k.toArray⟩
theorem byK_data (k : Key) : (byK k).data.toList = k := rfl
theorem plain_str {w : World} {ad : Addr} {l : List ByteArray} (h : Kd.C Kd.string w (some ad) l.length l) (hp : 0 < l.length) : ∃ g o, ad = ⟨g, o, none⟩ ∧ ∀ j, j < l.length → w.cell? ⟨g, o + j, none⟩ = some (.string (l.getD j ByteArray.empty)) := by
  have h2 := (Kd.reads_of_C (d := ByteArray.empty) (h1 := fun _ => rfl) h).2.2 hp
  obtain ⟨ad2, e, hc⟩ := h2
  injection e with e
  subst e
  obtain ⟨g, o, sp⟩ := ad
  have h0 := hc 0 hp
  obtain rfl := sub_none h0
  exact ⟨g, o, rfl, fun j hj => by have := hc j hj; rw [Addr.add_lit] at this; exact this⟩
theorem bytes_app {a b : List Int} (ha : Bytes a) (hb : Bytes b) : Bytes (a ++ b) := fun z hz => (List.mem_append.1 hz).elim (ha z) (hb z)
theorem bytes_take {l : List Int} (h : Bytes l) (k : Nat) : Bytes (l.take k) := fun z hz => h z (List.mem_of_mem_take hz)
theorem bytes_drop {l : List Int} (h : Bytes l) (k : Nat) : Bytes (l.drop k) := fun z hz => h z (List.mem_of_mem_drop hz)
theorem C_take' {w : World} {A : Option Addr} {l : List Int} {m : Nat} (h : Kd.C (Kd.int .u8) w A l.length l) (hm : m ≤ l.length) : Kd.C (Kd.int .u8) w A m (l.take m) := by
  have h2 := Kd.C_take h hm
  rw [List.length_take, Nat.min_eq_left hm] at h2
  exact h2
theorem plain_at {w : World} {ad : Addr} {l : List Int} (h : Kd.C (Kd.int .u8) w (some ad) l.length l) (hp : 0 < l.length) : ∃ g o, ad = ⟨g, o, none⟩ := by
  obtain ⟨ad2, e, hc⟩ := Kd.at_int h 0 (by omega) (by omega)
  injection e with e
  subst e
  obtain ⟨g, o, sp⟩ := ad
  obtain rfl := sub_none hc
  exact ⟨g, o, rfl⟩
theorem C_cell8 {w : World} {g o n : Nat} {l : List Int} (h : Kd.C (Kd.int .u8) w (some ⟨g, o, none⟩) n l) (i : Nat) (hi : i < n) : w.cell? ⟨g, o + i, none⟩ = some (.int .u8 (l.getD i 0)) := by
  obtain ⟨ad, e, hc⟩ := Kd.at_int h (i : Int) (by omega) (by omega)
  injection e with e
  subst e
  rw [Addr.add_lit] at hc
  simpa [rd] using hc
theorem C_drop' {w : World} {g o : Nat} {l : List Int} {m : Nat} (h : Kd.C (Kd.int .u8) w (some ⟨g, o, none⟩) l.length l) (hm : m ≤ l.length) : Kd.C (Kd.int .u8) w (some ⟨g, o + m, none⟩) (l.length - m) (l.drop m) := by
  refine Kd.C_of_reads (d := (0 : Int)) (h1 := fun _ => rfl) ⟨by simp, by have := h.2.1; omega, fun hp => ⟨_, rfl, fun j hj => ?_⟩⟩
  rw [Addr.add_lit, Nat.add_assoc, C_cell8 h (m + j) (by omega)]
  simp
theorem C_len {w : World} {A : Option Addr} {n : Nat} {l : List Int} (h : Kd.C (Kd.int .u8) w A n l) : l.length = n := h.1
theorem bdrewN {B : Nat} {a w : World} (h : Below B a w) (n : Nat) : Below B a (w.drewN n) := h.trans ⟨rfl, rfl, rfl, Nat.le_refl _, fun _ _ => rfl⟩
theorem own_new {g k n c : Nat} (h : (Value.slice (some ⟨g, 0, none⟩) n c).ownBlock = some k) : k = g := by
  have h : some g = some k := h
  injection h with h
  exact h.symm
theorem gate_op {P : Program} {ops : Array Oper} {rest : List Oper} {o : Oper} {a : Act} {w : World} {Q : Exit → Act → World → Prop} {op : Op} (_ho : o.op = op) (h : wpList P ops Q (o :: rest) a w) : wpList P ops Q (o :: rest) a w := h
theorem wpList_value_run {P : Program} {ops : Array Oper} {rest : List Oper} {o : Oper} {a : Act} {w w1 : World} {v : Value} {Q : Exit → Act → World → Prop} (hgd : o.guard = none) (hrun : (execOp a.eval o).run P w = .ok (.value v) w1)
    (h : wpList P ops Q rest (a.put o.dst v) w1) : wpList P ops Q (o :: rest) a w := by
  refine wpList_plain hgd fun K hK => ?_
  unfold Oper.wp
  rw [hrun]
  exact hK _ _ h
theorem cell_below {W W' : World} {p : Addr} {v : Value} (h : W.cell? p = some v) (hb : Below W.heap.size W W') : W'.cell? p = some v := by
  refine (hb.cell ?_).trans h
  rcases Nat.lt_or_ge p.block W.heap.size with h' | h'
  · exact h'
  · simp [World.cell?, Array.getElem?_eq_none h'] at h
theorem append_step {P : Program} {ops : Array Oper} {o : Oper} {N : Option Tmp} {a : Act} {w : World} {K : Act → World → Prop} {Q : Exit → Act → World → Prop} (hw : Region.wanted o (yielded ops a.tmps) = true) (s x : Operand) (t : TypeId)
    (ho : o.op = .call { callee := .builtin .append, args := #[s, x], argTypes := #[t, t] }) (v vx : Value) (hs : a.eval s = v) (hx : a.eval x = vx) (v' : Value) {w' : World} (hr : (Builtin.append_ #[t, t] o.type #[v, vx]).run P w = .ok v' w')
    (hN : o.dst = N) (h : K (a.put N v') w') : if Region.wanted o (yielded ops a.tmps) = true then Oper.wp P o a w K Q else K (a.put N undef) w := by
  rw [if_pos hw]
  subst hN
  unfold Oper.wp execOp
  simp only [ho, resolve, invoke, builtin, Sem.run_bind, Sem.run_pure, Result.andThen_ok, List.map_toArray, List.map_cons, List.map_nil, hs, hx, hr]
  exact h
theorem bdrew {B : Nat} {a w : World} (h : Below B a w) : Below B a w.drew := h.trans ⟨rfl, rfl, rfl, Nat.le_refl _, fun _ _ => rfl⟩
theorem bytes_new (w : World) (xs : List Int) (hl : xs.length ≤ 9223372036854775807) (fr : Nat × Nat) : Kd.C (Kd.int .u8) (w.alloc (.cells (bts xs).toArray 5 fr)) (some ⟨w.heap.size, 0, none⟩) xs.length xs := by
  refine Kd.C_of_reads (d := (0 : Int)) (h1 := fun _ => rfl) ⟨rfl, hl, fun hp => ⟨_, rfl, fun j hj => ?_⟩⟩
  rw [Addr.add_lit, Nat.zero_add, cell_of_row _ _ j _ 5 fr (heap_alloc_new w _)]
  simp [hj]
theorem data_inj {x y : ByteArray} (h : x.data.toList = y.data.toList) : x = y := by
  cases x; cases y
  simp only at h
  congr 1
  exact Array.toList_inj.1 h
theorem cut_data (x : ByteArray) (n : Nat) : (x.extract 0 n).data.toList = x.data.toList.take n := by
  rw [ByteArray.data_extract, Array.toList_extract]
  simp [List.extract_eq_take_drop]
theorem size_data (x : ByteArray) : x.size = x.data.toList.length := (Array.length_toList (xs := x.data)).symm
theorem at_isSome {β : Type} {l : List (Key × β)} {k : Key} : (at_ l k).isSome = true ↔ ∃ p ∈ l, p.1 = k := by
  constructor
  · intro h
    obtain ⟨g, hg⟩ := Option.isSome_iff_exists.1 h
    exact ⟨_, at_mem hg, rfl⟩
  · rintro ⟨p, hp, e⟩
    cases h : at_ l k with
    | some g => rfl
    | none => exact absurd e (at_none h p hp)
end Go.Proofs.Ytaghcepochjoeaa.Hand
namespace Go.Proofs.Ytaghcepochjoeaa.Hand
open Go.RowKit Go.Maps Go.Sort Go.Proofs.Ytaghcepochjoeaa.MapV
set_option linter.unusedVariables false
theorem HasMap.keys {β : Type} {E : Elem β} {P : Program} {kT : TypeId} {W : World} {m : Nat} {fm : List (Key × β)} (h : HasMap E P kT W m fm) (hk : P.underlying kT = some .string) :
    ∃ D, W.ownsMap P kT E.elem m fm.length D ∧ Maps.size D = fm.length ∧ (fm.map (·.1)).Perm (strKeys D) := by
  obtain ⟨D, hown, R⟩ := h
  refine ⟨D, hown, R.size, ?_⟩
  obtain ⟨es, hD, hpw, _⟩ := hown.entries (string_keyed hk)
  obtain ⟨es', hD', hko⟩ := hown.keysOf
  obtain rfl : es = es' := by rw [hD] at hD'; simpa using hD'
  have hhas := R.has
  subst hD
  refine perm_strKeys hpw (fun p hp => ?_) R.once (fun x => ?_)
  · obtain ⟨v, hv⟩ := hko p hp
    obtain ⟨x, _, hx, _⟩ := Maps.keyOf_str hk hv
    exact ⟨x, hx⟩
  · rw [hhas x, at_isSome]
    constructor
    · intro hx
      obtain ⟨p, hp, e⟩ := List.mem_map.1 hx
      exact ⟨p, hp, e⟩
    · rintro ⟨p, hp, e⟩
      exact List.mem_map.2 ⟨p, hp, e⟩
end Go.Proofs.Ytaghcepochjoeaa.Hand
