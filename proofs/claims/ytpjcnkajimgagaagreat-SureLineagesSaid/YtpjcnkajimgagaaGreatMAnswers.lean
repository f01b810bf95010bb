/- Rows of rows of whatever elements, of the call's own. -/
/- Answers: the table of answers, row by row. -/
import Derived.Test.YtpjcnkajimgagaaGreatMTry
import Derived.Test.YtpjcnkajimgagaaGreatMOpen
set_option linter.unusedSimpArgs false
set_option linter.unusedVariables false
namespace Go.Proofs.YtpjcnkajimgagaaGreat
open Go.RowKit

abbrev RowG := List Value × Option Addr × Nat
def hdrG (z : RowG) : Value := .slice z.2.1 z.1.length z.2.2
/-- rows in a list of the call's own; T: the rows' type -/
def RowsG (T : TypeId) (B : Nat) (Q : Nat → Prop) (W : World) (v : Value) (L : List (List Value)) : Prop :=
 ∃ zs : List RowG, zs.map (·.1) = L ∧ W.ownsRow B T 1 v L.length (zs.map hdrG) ∧ ∀ z ∈ zs, Row W z.2.1 z.1 ∧ z.1.length ≤ z.2.2 ∧ ∀ b o, z.2.1 = some ⟨b, o, none⟩ → 0 < z.1.length → v.ownBlock ≠ some b ∧ Q b
theorem hdrG_one (zs : List RowG) : ∀ u ∈ zs.map hdrG, u.oneCell' = true := by
 intro u hu
 obtain ⟨z, _, rfl⟩ := List.mem_map.1 hu
 rfl
theorem row_lt {W : World} {a : Option Addr} {x : List Value} (h : Row W a x) {b o : Nat} (ha : a = some ⟨b, o, none⟩) (hl : 0 < x.length) : b < W.heap.size := by
 obtain ⟨u, hu⟩ := get_of_lt x hl
 obtain ⟨b', o', ha', hc⟩ := h 0 u hu
 rw [ha] at ha'; cases ha'
 exact lt_of_cell hc
theorem row_keep {K : Nat → Prop} {A C : World} {a : Option Addr} {x : List Value} (h : Row A a x) (hk : Keep K A C) (hK : ∀ b o, a = some ⟨b, o, none⟩ → 0 < x.length → K b) : Row C a x := fun k u hu => by
 obtain ⟨b, o, ha, hc⟩ := h k u hu
 have hl : 0 < x.length := by have := (List.getElem?_eq_some_iff.1 hu).1; omega
 exact ⟨b, o, ha, hk.cell (hK b o ha hl) hc⟩
variable {T : TypeId}
theorem RowsG.keep {K Q : Nat → Prop} {B : Nat} {W W' : World} {v : Value} {L : List (List Value)} (h : RowsG T B Q W v L) (hk : Keep K W W') (hK : ∀ k, k < W.heap.size → K k) : RowsG T B Q W' v L := by
 obtain ⟨zs, h1, h2, h3⟩ := h
 refine ⟨zs, h1, ⟨h2.1, ?_⟩, fun z hz => ?_⟩
 ·rcases h2.2 with h0 | ⟨g, cap, cur, e1, e2, e3, e4⟩
  ·exact .inl h0
  ·exact .inr ⟨g, cap, cur, e1, e2, hk.heap (hK g (Array.getElem?_eq_some_iff.1 e3).1) e3, e4⟩
 ·obtain ⟨a1, a2, a3⟩ := h3 z hz
  exact ⟨row_keep a1 hk (fun b o ha hl => hK b (row_lt a1 ha hl)), a2, a3⟩
theorem RowsG.below {Q : Nat → Prop} {B : Nat} {W W' : World} {v : Value} {L : List (List Value)} (h : RowsG T B Q W v L) (hb : Below W.heap.size W W') : RowsG T B Q W' v L := h.keep (K := fun _ => True) (Keep.of_below' hb) (fun _ _ => trivial)
theorem RowsG.nil (B : Nat) (Q : Nat → Prop) (W : World) : RowsG T B Q W (.slice none 0 0) [] := ⟨[], rfl, ownsRow_nil _ _ _ _, by simp⟩
theorem RowsG.lt {Q : Nat → Prop} {B : Nat} {W : World} {v : Value} {L : List (List Value)} (h : RowsG T B Q W v L) {k : Nat} (hk : v.ownBlock = some k) : B ≤ k ∧ k < W.heap.size := by
 obtain ⟨_, _, h, _⟩ := h
 exact h.lt k hk
/-- what is read of it -/
theorem RowsG.at_ {Q : Nat → Prop} {B : Nat} {W : World} {v : Value} {L : List (List Value)} (h : RowsG T B Q W v L) : ∃ a cap, v = .slice a L.length cap ∧ ∀ k x, L[k]? = some x → ∃ b o ra rc, a = some ⟨b, o, none⟩ ∧ W.cell? ⟨b, o + k, none⟩ = some (.slice ra x.length rc) ∧ Row W ra x ∧ x.length ≤ rc := by
 obtain ⟨zs, h1, h2, h3⟩ := h
 obtain ⟨a, cap, hv, hr, _⟩ := ownsRow_own h2
 refine ⟨a, cap, hv, fun k x hx => ?_⟩
 rw [← h1, List.getElem?_map] at hx
 obtain ⟨z, hz, rfl⟩ := Option.map_eq_some_iff.1 hx
 obtain ⟨b, o, ha, hc⟩ := hr.row k (hdrG z) (by rw [List.getElem?_map, hz]; rfl)
 obtain ⟨a1, a2, _⟩ := h3 z (List.mem_of_getElem? hz)
 exact ⟨b, o, z.2.1, z.2.2, ha, hc, a1, a2⟩
theorem RowsG.less {Q Q' : Nat → Prop} {B B' : Nat} {W : World} {v : Value} {L : List (List Value)} (h : RowsG T B Q W v L) (hB : B' ≤ B) (hQ : ∀ b, Q b → Q' b) : RowsG T B' Q' W v L := by
 obtain ⟨zs, h1, h2, h3⟩ := h
 refine ⟨zs, h1, ⟨h2.1, ?_⟩, fun z hz => ⟨(h3 z hz).1, (h3 z hz).2.1, fun b o ha hl => ⟨((h3 z hz).2.2 b o ha hl).1, hQ b ((h3 z hz).2.2 b o ha hl).2⟩⟩⟩
 rcases h2.2 with h0 | ⟨g, cap, cur, e1, e2, e3, e4⟩
 ·exact .inl h0
 ·exact .inr ⟨g, cap, cur, e1, Nat.le_trans hB e2, e3, e4⟩
/-- a row put behind rows; its header lies at g -/
theorem RowsG.push {TT : TypeId} (hu : Tryz.prog.underlying TT = some (.slice T)) (hi : (Tryz.prog.info? T).map (fun i => (i.zero, i.size, i.bytes)) = some (some (.slice none 0 0), 1, 24)) {Q : Nat → Prop} {B g : Nat} {W : World} {v : Value} {L : List (List Value)} (h : RowsG T B Q W v L)
  {ra : Option Addr} {rc : Nat} {x : List Value} (hx : Row W ra x) (hc : x.length ≤ rc) (hb : ∀ b o, ra = some ⟨b, o, none⟩ → 0 < x.length → v.ownBlock ≠ some b ∧ Q b) (hg : Box W g #[.slice ra x.length rc] T) (hl : L.length + 1 ≤ 1000000) (hB : B ≤ W.heap.size) :
  ∃ v' U, (Builtin.append_ #[TT, TT] TT #[v, .slice (some ⟨g, 0, none⟩) 1 1]).run Tryz.prog W = .ok v' U ∧ RowsG T B Q U v' (L ++ [x]) ∧ Keep (fun k => v.ownBlock ≠ some k) W U ∧ (v'.ownBlock = v.ownBlock ∨ v'.ownBlock = some W.heap.size) := by
 obtain ⟨zs, h1, h2, h3⟩ := h
 have hrow : ∀ (k : Nat) (u : Value), [hdrG (x, ra, rc)][k]? = some u → ∃ b o, some (⟨g, 0, none⟩ : Addr) = some ⟨b, o, none⟩ ∧ W.cell? ⟨b, o + k, none⟩ = some u := fun k u hu => by
  refine ⟨g, 0, rfl, ?_⟩
  rw [hg.cell, Nat.zero_add]
  simpa [hdrG] using hu
 obtain ⟨v', U, hrun, hown, hgr, hvb⟩ := run_append_row (P := Tryz.prog) W B TT TT T (.slice none 0 0) 1 24 hu hi rfl (by omega)
  v _ _ h2 (some ⟨g, 0, none⟩) 1 1 [hdrG (x, ra, rc)] rfl hrow (hdrG_one [(x, ra, rc)]) hl (by omega) hB
 have kU : Keep (fun k => v.ownBlock ≠ some k) W U := (Keep.refl _ W).grown hgr (fun k hk => .inl (fun h => h hk))
 refine ⟨v', U, hrun, ⟨zs ++ [(x, ra, rc)], by rw [List.map_append, h1]; rfl, by rw [List.length_append, List.map_append]; exact hown, fun z hz => ?_⟩, kU, hvb⟩
 have all : Row W z.2.1 z.1 ∧ z.1.length ≤ z.2.2 ∧ ∀ b o, z.2.1 = some ⟨b, o, none⟩ → 0 < z.1.length → v.ownBlock ≠ some b ∧ Q b := by
  rcases List.mem_append.1 hz with hz | hz
  ·exact h3 z hz
  ·rw [List.mem_singleton.1 hz]; exact ⟨hx, hc, hb⟩
 obtain ⟨a1, a2, a3⟩ := all
 refine ⟨row_keep a1 kU (fun b o ha hl => (a3 b o ha hl).1), a2, fun b o ha hl => ⟨?_, (a3 b o ha hl).2⟩⟩
 rcases hvb with h | h
 ·rw [h]; exact (a3 b o ha hl).1
 ·rw [h]
  intro he
  cases he
  have := row_lt a1 ha hl
  omega
end Go.Proofs.YtpjcnkajimgagaaGreat
namespace Go.Proofs.YtpjcnkajimgagaaGreat
open Go.RowKit
attribute [local go_sem] Oper.semAt_some

def ansRowTo (c : Cs) (x k : Nat) : List Value := (List.range k).map fun y => .int .u8 (ansAt c x y)
def ansRowsTo (c : Cs) (k : Nat) : List (List Value) := (List.range k).map fun x => ansRowTo c x c.parts.length
def ansRows (c : Cs) : List (List Value) := ansRowsTo c c.parts.length
theorem ansRowTo_len (c : Cs) (x k : Nat) : (ansRowTo c x k).length = k := by simp [ansRowTo]
theorem ansRowsTo_len (c : Cs) (k : Nat) : (ansRowsTo c k).length = k := by simp [ansRowsTo]
theorem ansRowTo_succ (c : Cs) (x k : Nat) : ansRowTo c x (k + 1) = ansRowTo c x k ++ [.int .u8 (ansAt c x k)] := by simp [ansRowTo, List.range_succ]
theorem ansRowsTo_succ (c : Cs) (k : Nat) : ansRowsTo c (k + 1) = ansRowsTo c k ++ [ansRowTo c k c.parts.length] := by simp [ansRowsTo, List.range_succ]
theorem ansRowTo_one (c : Cs) (x k : Nat) : ∀ u ∈ ansRowTo c x k, u.oneCell' = true := by
 intro u hu
 simp only [ansRowTo, List.mem_map] at hu
 obtain ⟨y, _, rfl⟩ := hu
 rfl
theorem info_u8 : (Tryz.prog.info? 5).map (fun i => (i.zero, i.size, i.bytes)) = some (some (.int .u8 0), 1, 1) := by kernel_rfl
theorem info_row8 : (Tryz.prog.info? 100).map (fun i => (i.zero, i.size, i.bytes)) = some (some (.slice none 0 0), 1, 24) := by kernel_rfl
def RowsPost (T : TypeId) (er : Int) (L : List (List Value)) (w : World) (e : Ending) (w' : World) : Prop :=
 Below w.heap.size w w' ∧ ((er ≠ 0 ∧ e = .returned (.tuple #[.slice none 0 0, .int .i64 er])) ∨ (er = 0 ∧ ∃ v, e = .returned (.tuple #[v, .int .i64 0]) ∧ RowsG T w.heap.size (fun b => w.heap.size ≤ b) w' v L))
theorem app_one {E TT : TypeId} {z : Value} {bytes : Nat} (ht : Tryz.prog.underlying TT = some (.slice E)) (hi : (Tryz.prog.info? E).map (fun i => (i.zero, i.size, i.bytes)) = some (some z, 1, bytes)) (hz : z.cells.size = 1) (hby : bytes ≤ 10000) {base : Nat} {W : World} {v : Value} {j : Nat} {xs : List Value} (h : W.ownsRow base E 1 v j xs) (hj : j + 1 ≤ 1000000) (hB : base ≤ W.heap.size) (u : Value) (hu : u.oneCell' = true) :
  ∃ v' U, (Builtin.append_ #[TT, TT] TT #[v, .slice (some ⟨W.heap.size, 0, none⟩) 1 1]).run Tryz.prog (W.alloc (.cells #[u] E)) = .ok v' U ∧ U.ownsRow base E 1 v' (j + 1) (xs ++ [u]) ∧ Below base W U := by
 obtain ⟨v', U, hrun, hown, hg, _⟩ := run_append_row (P := Tryz.prog) (W.alloc (.cells #[u] E)) base TT TT E z 1 bytes ht hi hz (by omega)
  _ _ _ (ownsRow_keep h ((Keep.refl (fun _ => True) W).alloc (.cells #[u] E)) (fun _ _ => trivial)) (some ⟨W.heap.size, 0, none⟩) 1 1 [u] rfl (fun j u hu => ⟨W.heap.size, 0, rfl, by rw [(Box.new W _ _).cell, Nat.zero_add]; simpa using hu⟩) (by simpa using hu) (by omega) (by omega) (by simp; omega)
 exact ⟨v', U, hrun, hown, ((Below.refl _ W).alloc hB (.cells #[u] E)).grown hg (by simp; omega) (fun k hk => (h.lt k hk).1)⟩
theorem push_own {T TT E : TypeId} (hu : Tryz.prog.underlying TT = some (.slice T)) (hi : (Tryz.prog.info? T).map (fun i => (i.zero, i.size, i.bytes)) = some (some (.slice none 0 0), 1, 24)) {B : Nat} {wo wx : World} {ov rv : Value} {L : List (List Value)} {n : Nat} {xs : List Value} (h : RowsG T B (fun b => B ≤ b) wo ov L) (hb : Below wo.heap.size wo wx) (ho : wx.ownsRow wo.heap.size E 1 rv n xs) (hl : L.length + 1 ≤ 1000000) (hB : B ≤ wo.heap.size) :
  ∃ v' U, (Builtin.append_ #[TT, TT] TT #[ov, .slice (some ⟨wx.heap.size, 0, none⟩) 1 1]).run Tryz.prog (wx.alloc (.cells #[rv] T)) = .ok v' U ∧ RowsG T B (fun b => B ≤ b) U v' (L ++ [xs]) ∧ Below B wx U := by
 have hs := hb.size
 have hn : xs.length = n := by have := ho.1; omega
 obtain ⟨a, cap, rfl, hro, hcap⟩ := ownsRow_own ho
 subst hn
 have hba : Below wx.heap.size wx (wx.alloc (.cells #[.slice a xs.length cap] T)) := (Below.refl _ _).alloc (Nat.le_refl _) _
 have hrow : Row (wx.alloc (.cells #[.slice a xs.length cap] T)) a xs := row_keep hro.row (K := fun _ => True) (Keep.of_below' hba) (fun _ _ _ _ => trivial)
 obtain ⟨v', U, hrun, hown, hk, _⟩ := ((h.below hb).below hba).push hu hi hrow hcap (fun b o e hl => by
  obtain ⟨u, hu⟩ := get_of_lt xs hl
  obtain ⟨b', o', e', hbb, _⟩ := hro 0 u hu
  rw [e] at e'; cases e'
  refine ⟨fun hv => ?_, by omega⟩
  have := (h.lt hv).2
  omega) (Box.new wx _ T) hl (by simp; omega)
 refine ⟨v', U, hrun, hown, (hba.mono (by omega)).trans ((hk.mono (fun k (hk : k < B) hv => ?_)).below (by simp; omega))⟩
 have := (h.lt hv).1
 omega
end Go.Proofs.YtpjcnkajimgagaaGreat
