/- Words on memory that the walks of this claim use: a row of cells that a slice shows, a list of ints, a part, a case; that they stay where memory below stays. No condition. -/
/- The plain meaning of package sure and of its reference: lists and integers, no program. -/
import Derived.WalkKit
import Derived.WalkSpells
import Derived.WalkLawsBesides
import Derived.RangeFuncKeeps
import Derived.Deep.Draws
set_option linter.unusedSimpArgs false
set_option linter.unusedVariables false
namespace Go.Proofs.YthpjffhccjlnhaaGreatDoor
open Go.RowKit

theorem lt_of_cell {w : World} {b o : Nat} {v : Value} (h : w.cell? ⟨b, o, none⟩ = some v) : b < w.heap.size := by
 rcases Nat.lt_or_ge b w.heap.size with h0 | h0
 ·exact h0
 ·simp [World.cell?, Array.getElem?_eq_none h0] at h

theorem below_cell {w w' : World} (hb : Below w.heap.size w w') {b o : Nat} {v : Value} (h : w.cell? ⟨b, o, none⟩ = some v) : w'.cell? ⟨b, o, none⟩ = some v :=
 (hb.cell (p := ⟨b, o, none⟩) (lt_of_cell h)).trans h

theorem below_heap {w w' : World} {B : Nat} (hb : Below B w w') {k : Nat} {o : Obj} (hk : k < B) (h : w.heap[k]? = some o) : w'.heap[k]? = some o := (hb.block k hk).trans h

theorem alloc_cell {w : World} {o : Obj} {b i : Nat} {v : Value} (h : w.cell? ⟨b, i, none⟩ = some v) : (w.alloc o).cell? ⟨b, i, none⟩ = some v :=
 below_cell ((Below.refl _ w).alloc (Nat.le_refl _) o) h

/-- a block of the call's own, known whole -/
def Box (w : World) (b : Nat) (cs : Array Value) (t : TypeId) : Prop := w.heap[b]? = some (.cells cs t (0, 0))
theorem Box.lt {w : World} {b : Nat} {cs : Array Value} {t : TypeId} (h : Box w b cs t) : b < w.heap.size := by
 rcases Nat.lt_or_ge b w.heap.size with h0 | h0
 ·exact h0
 ·unfold Box at h; rw [Array.getElem?_eq_none h0] at h; cases h
theorem Box.cell {w : World} {b : Nat} {cs : Array Value} {t : TypeId} (h : Box w b cs t) (i : Nat) : w.cell? ⟨b, i, none⟩ = cs[i]? := by
 unfold Box at h; simp [World.cell?, h]
theorem Box.frozen {w : World} {b : Nat} {cs : Array Value} {t : TypeId} (h : Box w b cs t) (i : Nat) : w.frozen? ⟨b, i, none⟩ = false := by
 unfold Box at h; simp [World.frozen?, h]
theorem Box.new (w : World) (cs : Array Value) (t : TypeId) : Box (w.alloc (.cells cs t)) w.heap.size cs t := World.alloc_heap_new w _
theorem Box.new' {w : World} {cs : Array Value} {t : TypeId} {k : Nat} (h : k = w.heap.size) : Box (w.alloc (.cells cs t)) k cs t := h ▸ Box.new w cs t
theorem Box.drew {w : World} {b : Nat} {cs : Array Value} {t : TypeId} (h : Box w b cs t) : Box w.drew b cs t := h
theorem Box.drewN {w : World} {b : Nat} {cs : Array Value} {t : TypeId} (h : Box w b cs t) (n : Nat) : Box (w.drewN n) b cs t := h
theorem Box.alloc {w : World} {b : Nat} {cs : Array Value} {t : TypeId} (h : Box w b cs t) (o : Obj) : Box (w.alloc o) b cs t := (Below.heap_alloc w o b h.lt).trans h
theorem Box.below {w w' : World} {B b : Nat} {cs : Array Value} {t : TypeId} (h : Box w b cs t) (hb : Below B w w') (hB : b < B) : Box w' b cs t := (hb.block b hB).trans h
theorem Box.below' {w w' : World} {b : Nat} {cs : Array Value} {t : TypeId} (h : Box w b cs t) (hb : Below w.heap.size w w') : Box w' b cs t := h.below hb h.lt
theorem Box.far {w : World} {b : Nat} {cs : Array Value} {t : TypeId} (h : Box w b cs t) {p : Addr} (hp : b ≠ p.block) (u : Value) : Box (w.setCell p u) b cs t := (Below.heap_setCell w p u b hp).trans h
theorem Box.set_ {w : World} {b : Nat} {cs : Array Value} {t : TypeId} (h : Box w b cs t) (i : Nat) (u : Value) : Box (w.setCell ⟨b, i, none⟩ u) b (cs.setIfInBounds i u) t := by
 unfold Box at h ⊢
 simp [World.setCell, Array.getElem?_modify, h]
theorem Box.grown {w w' : World} {b : Nat} {cs : Array Value} {t : TypeId} {row : Option Nat} (h : Box w b cs t) (hb : w.grownBy w' row) (hg : some b ≠ row) : Box w' b cs t := (hb.block b h.lt hg).trans h
/-- what the walk reads of it -/
theorem Box.rules {w : World} {b : Nat} {cs : Array Value} {t : TypeId} (h : Box w b cs t) : (∀ i, w.cell? ⟨b, i, none⟩ = cs[i]?) ∧ (∀ i, w.frozen? ⟨b, i, none⟩ = false) := ⟨h.cell, h.frozen⟩

/-- a slice that begins at a shows the cells xs -/
def Row (w : World) (a : Option Addr) (xs : List Value) : Prop :=
 ∀ k v, xs[k]? = some v → ∃ b o, a = some ⟨b, o, none⟩ ∧ w.cell? ⟨b, o + k, none⟩ = some v

theorem Row.below {w w' : World} {a : Option Addr} {xs : List Value} (h : Row w a xs) (hb : Below w.heap.size w w') : Row w' a xs := fun k v hv => by
 obtain ⟨b, o, ha, hc⟩ := h k v hv
 exact ⟨b, o, ha, below_cell hb hc⟩
theorem Row.nil (w : World) (a : Option Addr) : Row w a [] := fun k v hv => by simp at hv

/-- .. the ints l -/
def Ints (w : World) (a : Option Addr) (l : List Int) : Prop := Row w a (l.map (Value.int .i64))
theorem Ints.below {w w' : World} {a : Option Addr} {l : List Int} (h : Ints w a l) (hb : Below w.heap.size w w') : Ints w' a l := Row.below h hb
theorem Ints.nil (w : World) (a : Option Addr) : Ints w a [] := fun k v hv => by simp at hv
theorem Ints.at_ {w : World} {a : Option Addr} {l : List Int} (h : Ints w a l) {k : Nat} (hk : k < l.length) :
  ∃ b o x, a = some ⟨b, o, none⟩ ∧ l[k]? = some x ∧ w.cell? ⟨b, o + k, none⟩ = some (.int .i64 x) := by
 obtain ⟨b, o, ha, hc⟩ := h k (.int .i64 l[k]) (by simp [hk])
 exact ⟨b, o, l[k], ha, by simp [hk], hc⟩

theorem Ints.base {w : World} {a : Option Addr} {l : List Int} (h : Ints w a l) (hne : 0 < l.length) :
  ∃ b o, a = some ⟨b, o, none⟩ ∧ ∀ k x, l[k]? = some x → w.cell? ⟨b, o + k, none⟩ = some (.int .i64 x) := by
 obtain ⟨b, o, _, ha, _, _⟩ := h.at_ hne
 refine ⟨b, o, ha, fun k x hx => ?_⟩
 obtain ⟨b', o', ha', hc'⟩ := h k (.int .i64 x) (by simp [hx])
 rw [ha] at ha'
 cases ha'
 exact hc'
theorem get_of_lt {α : Type} (l : List α) {k : Nat} (hk : k < l.length) : ∃ x, l[k]? = some x := ⟨l[k], by simp [hk]⟩

theorem ret_bool {a b : Bool} (h : a = b) : Ending.returned (.bool a) = .returned (.bool b) := by rw [h]
theorem ret_int {k : IntKind} {a b : Int} (h : a = b) : Ending.returned (.int k a) = .returned (.int k b) := by rw [h]

/-- bytes -/
def Bytes (w : World) (a : Option Addr) (l : List UInt8) : Prop := Row w a (l.map fun c => Value.int .u8 c.toNat)
theorem Bytes.below {w w' : World} {a : Option Addr} {l : List UInt8} (h : Bytes w a l) (hb : Below w.heap.size w w') : Bytes w' a l := Row.below h hb
theorem Bytes.at_ {w : World} {a : Option Addr} {l : List UInt8} (h : Bytes w a l) {k : Nat} (hk : k < l.length) :
  ∃ b o x, a = some ⟨b, o, none⟩ ∧ l[k]? = some x ∧ w.cell? ⟨b, o + k, none⟩ = some (.int .u8 x.toNat) := by
 obtain ⟨b, o, ha, hc⟩ := h k (.int .u8 (l[k]).toNat) (by simp [hk])
 exact ⟨b, o, l[k], ha, by simp [hk], hc⟩

/-- a span, a part, a case as data -/
structure Spn where
 low : Int
 high : Int
 lowBy : Int
 highBy : Int
deriving DecidableEq
structure Prt where
 sherds : List Int
 span : Spn
 foot : Bool
 footBy : Int
 rests : List Int
deriving DecidableEq
structure Cs where
 ware : ByteArray
 limit : Int
 by_ : Int
 parts : List Prt

/-- the eight cells of a part, its two lists at sa and ra -/
def prtCells (p : Prt) (sa : Option Addr) (sc : Nat) (ra : Option Addr) (rc : Nat) : List Value :=
 [.slice sa p.sherds.length sc, .int .i64 p.span.low, .int .i64 p.span.high, .int .i64 p.span.lowBy, .int .i64 p.span.highBy, .bool p.foot, .int .i64 p.footBy, .slice ra p.rests.length rc]

/-- a part in a box of the call's own -/
def PrtBox (w : World) (b : Nat) (p : Prt) (sa : Option Addr) (sc : Nat) (ra : Option Addr) (rc : Nat) (t : TypeId) : Prop := Box w b (prtCells p sa sc ra rc).toArray t
theorem PrtBox.new (w : World) (p : Prt) (sa : Option Addr) (sc : Nat) (ra : Option Addr) (rc : Nat) (t : TypeId) :
  PrtBox (w.alloc (.cells #[.slice sa p.sherds.length sc, .int .i64 p.span.low, .int .i64 p.span.high, .int .i64 p.span.lowBy, .int .i64 p.span.highBy, .bool p.foot, .int .i64 p.footBy, .slice ra p.rests.length rc] t)) w.heap.size p sa sc ra rc t := Box.new _ _ _
theorem PrtBox.cells {w : World} {b : Nat} {p : Prt} {sa : Option Addr} {sc : Nat} {ra : Option Addr} {rc : Nat} {t : TypeId} (h : PrtBox w b p sa sc ra rc t) (i : Nat) :
  w.cell? ⟨b, i, none⟩ = (#[.slice sa p.sherds.length sc, .int .i64 p.span.low, .int .i64 p.span.high, .int .i64 p.span.lowBy, .int .i64 p.span.highBy, .bool p.foot, .int .i64 p.footBy, .slice ra p.rests.length rc] : Array Value)[i]? := Box.cell h i

def SpnBox (w : World) (b : Nat) (s : Spn) (t : TypeId) : Prop := Box w b #[.int .i64 s.low, .int .i64 s.high, .int .i64 s.lowBy, .int .i64 s.highBy] t
theorem SpnBox.cells {w : World} {b : Nat} {s : Spn} {t : TypeId} (h : SpnBox w b s t) (i : Nat) : w.cell? ⟨b, i, none⟩ = (#[.int .i64 s.low, .int .i64 s.high, .int .i64 s.lowBy, .int .i64 s.highBy] : Array Value)[i]? := Box.cell h i

def PartAt (w : World) (b o : Nat) (p : Prt) : Prop :=
 ∃ sa sc ra rc, (∀ i v, (prtCells p sa sc ra rc)[i]? = some v → w.cell? ⟨b, o + i, none⟩ = some v) ∧ Ints w sa p.sherds ∧ Ints w ra p.rests ∧ p.sherds.length ≤ sc ∧ p.rests.length ≤ rc
theorem PartAt.below {w w' : World} {b o : Nat} {p : Prt} (h : PartAt w b o p) (hb : Below w.heap.size w w') : PartAt w' b o p := by
 obtain ⟨sa, sc, ra, rc, h1, h2, h3, h4⟩ := h
 exact ⟨sa, sc, ra, rc, fun i v hv => below_cell hb (h1 i v hv), h2.below hb, h3.below hb, h4⟩

theorem PartAt.open {w : World} {b o : Nat} {p : Prt} (h : PartAt w b o p) :
  ∃ sa sc ra rc, w.cell? ⟨b, o, none⟩ = some (.slice sa p.sherds.length sc) ∧ w.cell? ⟨b, o + 1, none⟩ = some (.int .i64 p.span.low) ∧
   w.cell? ⟨b, o + 2, none⟩ = some (.int .i64 p.span.high) ∧ w.cell? ⟨b, o + 3, none⟩ = some (.int .i64 p.span.lowBy) ∧ w.cell? ⟨b, o + 4, none⟩ = some (.int .i64 p.span.highBy) ∧
   w.cell? ⟨b, o + 5, none⟩ = some (.bool p.foot) ∧ w.cell? ⟨b, o + 6, none⟩ = some (.int .i64 p.footBy) ∧ w.cell? ⟨b, o + 7, none⟩ = some (.slice ra p.rests.length rc) ∧
   Ints w sa p.sherds ∧ Ints w ra p.rests ∧ p.sherds.length ≤ sc ∧ p.rests.length ≤ rc := by
 obtain ⟨sa, sc, ra, rc, h1, h2, h3, h4⟩ := h
 exact ⟨sa, sc, ra, rc, h1 0 _ rfl, h1 1 _ rfl, h1 2 _ rfl, h1 3 _ rfl, h1 4 _ rfl, h1 5 _ rfl, h1 6 _ rfl, h1 7 _ rfl, h2, h3, h4⟩

def PartsAt (w : World) (a : Option Addr) (l : List Prt) : Prop :=
 ∀ k p, l[k]? = some p → ∃ b o, a = some ⟨b, o, none⟩ ∧ PartAt w b (o + k * 8) p
theorem PartsAt.below {w w' : World} {a : Option Addr} {l : List Prt} (h : PartsAt w a l) (hb : Below w.heap.size w w') : PartsAt w' a l := fun k p hp => by
 obtain ⟨b, o, ha, hc⟩ := h k p hp
 exact ⟨b, o, ha, hc.below hb⟩
theorem PartsAt.at_ {w : World} {a : Option Addr} {l : List Prt} (h : PartsAt w a l) {k : Nat} (hk : k < l.length) :
  ∃ b o p, a = some ⟨b, o, none⟩ ∧ l[k]? = some p ∧ PartAt w b (o + k * 8) p := by
 obtain ⟨b, o, ha, hc⟩ := h k l[k] (by simp [hk])
 exact ⟨b, o, l[k], ha, by simp [hk], hc⟩

/-- the cells of a case, its parts at pa -/
def csVal (c : Cs) (pa : Option Addr) (pc : Nat) : List Value := [.string c.ware, .int .i64 c.limit, .int .i64 c.by_, .slice pa c.parts.length pc]
def CaseAt (w : World) (v : Value) (c : Cs) : Prop := ∃ pa pc, v = .agg #[.string c.ware, .int .i64 c.limit, .int .i64 c.by_, .slice pa c.parts.length pc] ∧ PartsAt w pa c.parts ∧ c.parts.length ≤ pc
theorem CaseAt.below {w w' : World} {v : Value} {c : Cs} (h : CaseAt w v c) (hb : Below w.heap.size w w') : CaseAt w' v c := by
 obtain ⟨pa, pc, h1, h2, h3⟩ := h
 exact ⟨pa, pc, h1, h2.below hb, h3⟩

/-- small sizes -/
def Cs.Small (c : Cs) : Prop := c.parts.length ≤ 12 ∧ c.ware.size ≤ 100 ∧ ∀ p ∈ c.parts, p.sherds.length ≤ 60 ∧ p.rests.length ≤ 250

end Go.Proofs.YthpjffhccjlnhaaGreatDoor
namespace Go.Proofs.YthpjffhccjlnhaaGreatDoor

/-- something holds of all numbers below n -/
def upto (n : Nat) (p : Nat → Bool) : Bool := (List.range n).all p
theorem upto_true {n : Nat} {p : Nat → Bool} (h : ∀ k, k < n → p k = true) : upto n p = true := by simp [upto]; exact h
theorem upto_false {n : Nat} {p : Nat → Bool} {k : Nat} (hk : k < n) (h : p k = false) : upto n p = false := by
 simp only [upto, List.all_eq_false, List.mem_range]; exact ⟨k, hk, by simp [h]⟩
theorem upto_iff {n : Nat} {p : Nat → Bool} : upto n p = true ↔ ∀ k, k < n → p k = true := by simp [upto]
theorem all_step {p : Nat → Bool} {k : Nat} (h : ∀ j, j < k → p j = true) (hk : p k = true) : ∀ j, j < k + 1 → p j = true := fun j hj => by
 rcases Nat.lt_or_ge j k with h1 | h1
 ·exact h j h1
 ·have : j = k := by omega
  subst this; exact hk
theorem all_none {p : Nat → Bool} : ∀ j, j < 0 → p j = true := fun j hj => absurd hj (Nat.not_lt_zero j)
theorem upto_congr {n : Nat} {p q : Nat → Bool} (h : ∀ k, k < n → p k = q k) : upto n p = upto n q := by
 rw [Bool.eq_iff_iff, upto_iff, upto_iff]
 exact ⟨fun a k hk => (h k hk) ▸ a k hk, fun a k hk => (h k hk).symm ▸ a k hk⟩

/-- a number is in a range -/
def inB (a b c : Int) : Bool := decide (b ≤ a ∧ a ≤ c)
/-- an Id, or 0; just 0 where there is nothing that it is of -/
def byB (n : Int) (f : Bool) : Bool := inB n 0 1000000 && (f || n == 0)
/-- strictly ascending Ids -/
def idAt (l : List Int) (k : Nat) : Bool := inB (l[k]?.getD 0) 1 1000000 && (k == 0 || decide (l[k - 1]?.getD 0 < l[k]?.getD 0))
def idsB (l : List Int) : Bool := upto l.length (idAt l)

theorem idAt_zero {l : List Int} {x : Int} (hx : l[0]? = some x) : idAt l 0 = inB x 1 1000000 := by simp [idAt, hx]
theorem idAt_succ {l : List Int} {k : Nat} {x y : Int} (hx : l[k + 1]? = some x) (hy : l[k]? = some y) : idAt l (k + 1) = (inB x 1 1000000 && decide (y < x)) := by simp [idAt, hx, hy]

def okSpn (s : Spn) : Bool := decide (0 ≤ s.low) && decide (s.low ≤ s.high) && decide (s.high ≤ 1000)
def isPartB (p : Prt) : Bool :=
 inB p.sherds.length 1 40 && idsB p.sherds && decide ((p.rests.length : Int) ≤ 200) && idsB p.rests && okSpn p.span &&
 byB p.span.lowBy (decide (0 < p.span.low)) && byB p.span.highBy (decide (p.span.high < 1000)) && byB p.footBy p.foot

/-- a byte of a name behind the first -/
def nameByte (c : UInt8) : Bool := (decide (97 ≤ c.toNat) && decide (c.toNat ≤ 122)) || (decide (48 ≤ c.toNat) && decide (c.toNat ≤ 57)) || c.toNat == 45
def isNameB (s : ByteArray) : Bool :=
 inB s.size 1 24 && (decide (97 ≤ (s.data.toList[0]?.getD 0).toNat) && decide ((s.data.toList[0]?.getD 0).toNat ≤ 122)) && s.data.toList.all nameByte

/-- no number twice -/
def noDup (l : List Int) : Bool := decide l.Nodup
theorem noDup_snoc (l : List Int) (x : Int) : noDup (l ++ [x]) = (noDup l && !l.contains x) := by
 have : (l ++ [x]).Nodup ↔ l.Nodup ∧ ¬ x ∈ l := by
  rw [List.nodup_append]
  constructor
  ·rintro ⟨h1, _, h3⟩
   exact ⟨h1, fun hx => h3 x hx x (by simp) rfl⟩
  ·rintro ⟨h1, h2⟩
   refine ⟨h1, by simp, fun a ha b hb => ?_⟩
   simp at hb; subst hb
   exact fun e => h2 (e ▸ ha)
 rw [Bool.eq_iff_iff]
 simp [noDup, this]
theorem noDup_app {l r : List Int} (h : noDup (l ++ r) = true) : noDup l = true := by
 simp [noDup] at h ⊢
 exact (List.nodup_append.1 h).1

/-- all sherds of parts -/
def allIds (l : List Prt) : List Int := l.flatMap (·.sherds)
theorem allIds_snoc (l : List Prt) (p : Prt) : allIds (l ++ [p]) = allIds l ++ p.sherds := by simp [allIds]
theorem allIds_len (n : Nat) : ∀ (l : List Prt), (∀ p ∈ l, p.sherds.length ≤ n) → (allIds l).length ≤ n * l.length
 | [], _ => by simp [allIds]
 | p :: l, h => by
  have h1 := allIds_len n l (fun q hq => h q (by simp [hq]))
  have h2 := h p (by simp)
  have e : allIds (p :: l) = p.sherds ++ allIds l := by simp [allIds]
  rw [e, List.length_append, List.length_cons, Nat.mul_add]
  omega
def ok0 (c : Cs) : Bool := isNameB c.ware && inB c.limit 0 40 && byB c.by_ (decide (0 < c.limit))
def okCase (c : Cs) : Bool := ok0 c && c.parts.all isPartB && noDup (allIds c.parts)
/-- what CheckCase says -/
def checkCase (c : Cs) : Int := if 8 < c.parts.length then 70 else if okCase c then 0 else 1

theorem take_snoc {α : Type} {l : List α} {k : Nat} {x : α} (h : l[k]? = some x) : l.take (k + 1) = l.take k ++ [x] := by
 obtain ⟨hk, rfl⟩ := List.getElem?_eq_some_iff.1 h
 rw [List.take_succ_eq_append_getElem hk]

theorem ids_in {l : List Int} (h : idsB l = true) : ∀ x ∈ l, 1 ≤ x ∧ x ≤ 1000000 := by
 intro x hx
 obtain ⟨j, hj, e⟩ := List.getElem_of_mem hx
 have := upto_iff.1 h j hj
 simp [idAt, hj, e, inB] at this
 exact this.1
theorem part_ids {p : Prt} (h : isPartB p = true) : ∀ x ∈ p.sherds, 1 ≤ x ∧ x ≤ 1000000 := by
 refine ids_in ?_
 simp [isPartB] at h
 exact h.1.1.1.1.1.1.2

theorem check_false {c : Cs} {k : Nat} {p : Prt} (h8 : ¬ 8 < c.parts.length) (hp : c.parts[k]? = some p) (h : isPartB p = false) : checkCase c = 1 := by
 have : okCase c = false := by
  rw [Bool.eq_false_iff]; intro hh
  simp only [okCase, Bool.and_eq_true, List.all_eq_true] at hh
  have := hh.1.2 p (List.mem_of_getElem? hp)
  rw [h] at this; cases this
 simp [checkCase, h8, this]
theorem check_dup {c : Cs} {k : Nat} (h8 : ¬ 8 < c.parts.length) (h : (ok0 c && noDup (allIds (c.parts.take k))) = false) : checkCase c = 1 := by
 have : okCase c = false := by
  rw [Bool.eq_false_iff]; intro hh
  simp only [okCase, Bool.and_eq_true] at hh
  have e : allIds c.parts = allIds (c.parts.take k) ++ allIds (c.parts.drop k) := by
   simp only [allIds, ← List.flatMap_append, List.take_append_drop]
  have := noDup_app (e ▸ hh.2)
  simp [hh.1.1, this] at h
 simp [checkCase, h8, this]
theorem check_end {c : Cs} {b : Bool} (h8 : ¬ 8 < c.parts.length) (hb : b = (ok0 c && noDup (allIds c.parts))) (h : ∀ j p, j < c.parts.length → c.parts[j]? = some p → isPartB p = true) :
  checkCase c = if b then 0 else 1 := by
 have ha : c.parts.all isPartB = true := by
  rw [List.all_eq_true]; intro p hp
  obtain ⟨j, hj, e⟩ := List.getElem_of_mem hp
  exact h j p hj (by simp [hj, e])
 rw [hb, checkCase, if_neg h8, okCase, ha]; simp
theorem check_ok {c : Cs} {k : Nat} (h8 : ¬ 8 < c.parts.length) (hk : ¬ k < c.parts.length) (hb : true = (ok0 c && noDup (allIds (c.parts.take k)))) (h : ∀ (j : Nat) p, j < k → c.parts[j]? = some p → isPartB p = true) : checkCase c = 0 := by
 rw [List.take_of_length_le (by omega)] at hb
 rw [check_end h8 hb (fun j p hj => h j p (by omega))]; rfl
theorem parts_step {l : List Prt} {k : Nat} {p : Prt} (hp : l[k]? = some p) (h : isPartB p = true) (hall : ∀ (j : Nat) q, j < k → l[j]? = some q → isPartB q = true) :
  ∀ (j : Nat) q, j < k + 1 → l[j]? = some q → isPartB q = true := fun j q hj hq => by
 rcases Nat.lt_or_ge j k with h1 | h1
 ·exact hall j q h1 hq
 ·have : j = k := by omega
  subst this
  rw [hp] at hq; cases hq; exact h

def feetB (f g : Bool) : Bool := f && g
/-- two parts clash -/
def clashP (x y : Nat) (p q : Prt) : Bool := x != y && (feetB p.foot q.foot || decide (q.span.high < p.span.low) || decide (p.span.high < q.span.low))
def clashB (c : Cs) (x y : Nat) : Bool := match c.parts[x]?, c.parts[y]? with | some p, some q => clashP x y p q | _, _ => false
theorem clashB_eq {c : Cs} {x y : Nat} {p q : Prt} (hp : c.parts[x]? = some p) (hq : c.parts[y]? = some q) : clashB c x y = clashP x y p q := by simp [clashB, hp, hq]

/-- the Limit lets a vessel in -/
def limB (c : Cs) (v : Nat) : Bool := decide (c.limit ≤ 0) || decide ((v : Int) < c.limit)
/-- the next part can be put into vessel v -/
def noClash (c : Cs) (pre : List Nat) (v : Nat) : Bool := upto pre.length fun q => !(pre[q]?.getD 0 == v && clashB c pre.length q)
def freeB (c : Cs) (pre : List Nat) (v : Nat) : Bool := limB c v && noClash c pre v
def manyOf (pre : List Nat) : Nat := pre.foldl (fun m v => max m (v + 1)) 0
/-- the reassemblies that begin so, in order -/
def allGo (c : Cs) : Nat → List Nat → List (List Nat)
 | 0, pre => [pre]
 | r + 1, pre => (List.range (manyOf pre + 1)).flatMap fun v => if freeB c pre v then allGo c r (pre ++ [v]) else []
def allR (c : Cs) : List (List Nat) := allGo c c.parts.length []
def yields (c : Cs) (r : Nat) (pre : List Nat) (k : Nat) : List (List Nat) := (List.range k).flatMap fun v => if freeB c pre v then allGo c r (pre ++ [v]) else []

theorem manyOf_snoc (pre : List Nat) (v : Nat) : manyOf (pre ++ [v]) = max (manyOf pre) (v + 1) := by simp [manyOf, List.foldl_append]
theorem yields_zero (c : Cs) (r : Nat) (pre : List Nat) : yields c r pre 0 = [] := rfl
theorem yields_succ (c : Cs) (r : Nat) (pre : List Nat) (k : Nat) : yields c r pre (k + 1) = yields c r pre k ++ (if freeB c pre k then allGo c r (pre ++ [k]) else []) := by
 simp [yields, List.range_succ, List.flatMap_append]
theorem yields_all (c : Cs) (r : Nat) (pre : List Nat) : yields c r pre (manyOf pre + 1) = allGo c (r + 1) pre := rfl
theorem yields_le (c : Cs) (r : Nat) (pre : List Nat) {k m : Nat} (h : k ≤ m) : yields c r pre k <+: yields c r pre m := by
 obtain ⟨d, rfl⟩ := Nat.exists_eq_add_of_le h
 induction d with
 | zero => exact List.prefix_rfl
 | succ d ih => exact (ih (by omega)).trans (by rw [← Nat.add_assoc, yields_succ]; exact List.prefix_append _ _)
theorem yields_stop (c : Cs) (r : Nat) (pre : List Nat) {k : Nat} (h : limB c k = false) : ∀ {m : Nat}, k ≤ m → yields c r pre m = yields c r pre k := by
 intro m hm
 obtain ⟨d, rfl⟩ := Nat.exists_eq_add_of_le hm
 induction d with
 | zero => rfl
 | succ d ih =>
  rw [← Nat.add_assoc, yields_succ, ih (by omega)]
  have : freeB c pre (k + d) = false := by
   have : limB c (k + d) = false := by simp [limB] at h ⊢; omega
   simp [freeB, this]
  simp [this]

end Go.Proofs.YthpjffhccjlnhaaGreatDoor
