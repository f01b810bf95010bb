/- Walks and plain laws. No condition. -/
import Derived.Test.YtjgldeeianionaaGreatV06
set_option maxHeartbeats 2000000
set_option maxRecDepth 100000
set_option linter.unusedSimpArgs false
set_option linter.unusedVariables false
namespace Go.Proofs.YtjgldeeianionaaGreat
open Go.RowKit
def unproved:Value:=.iface 254 (.agg #[])
theorem need_ok (w:World):Calls Tryz.prog 221 #[.bool true] w fun e w'=>e = .returned (.tuple #[])∧w=w':=by
 go_enter Tryz.func221,Tryz.ntmps221
 go_wp2
 go_end0
 exact⟨rfl,rfl⟩
theorem need_no (w:World):Calls Tryz.prog 221 #[.bool false] w fun e w'=>e = .panicked [{v:=unproved,recovered:=false}]∧w=w':=by
 go_enter Tryz.func221,Tryz.ntmps221
 go_wp2
 exact⟨rfl,rfl,rfl⟩
def decCells (d:Nat→Nat→Nat):Array Value:=((List.range 64).map fun i=>Value.int .u8 (d (i / 8) (i % 8):Nat)).toArray
theorem decCells_size (d:Nat→Nat→Nat):(decCells d).size=64:=by simp[decCells]
theorem dec_at (d:Nat→Nat→Nat)(i:Nat):(decCells d)[i]?=if i<64 then some (.int .u8 (d (i / 8) (i % 8):Nat)) else none:=by
 unfold decCells;rw[List.getElem?_toArray,List.getElem?_map]
 split
 ·rw[List.getElem?_range zO];rfl
 ·rw[List.getElem?_eq_none zT];rfl
theorem decCells_at (d:Nat→Nat→Nat){x y:Nat}(hx:x<8)(hy:y<8):(decCells d)[x*8+y]?=some (.int .u8 (d x y:Nat)):=by
 rw[dec_at,if_pos zO];have h1:(x*8+y) / 8=x:=by omega
 have h2:(x*8+y) % 8=y:=by omega
 rw[h1,h2]
theorem dec_set (d:Nat→Nat→Nat){x y:Nat}(hx:x<8)(hy:y<8)(v:Nat):(decCells d).setIfInBounds (x*8+y) (.int .u8 (v:Nat))=decCells (fun a b=>if a=x∧b=y then v else d a b):=by
 apply Array.ext_getElem?
 intro i;rw[Array.getElem?_setIfInBounds,dec_at,dec_at,decCells_size]
 by_cases h:x*8+y=i
 ·subst h;have h1:(x*8+y) / 8=x:=by omega
  have h2:(x*8+y) % 8=y:=by omega
  rw[if_pos rfl,if_pos zO,if_pos zO]
  simp[h1,h2]
 ·rw[if_neg h];have h3:¬(i / 8=x∧i % 8=y):=by omega
  simp[h3]
theorem dec_one (d:Nat→Nat→Nat):(decCells d).all (·.oneCell')=true:=by
 refine Array.all_eq_true_iff_forall_mem.2 fun v hv=>?_
 simp[decCells] at hv
 obtain⟨i,_,rfl⟩:=hv
 rfl
theorem dec_info (d:Nat→Nat→Nat):(Tryz.prog.info? 227).map (·.size)=some (decCells d).size:=by rw[decCells_size];kernel_rfl
theorem zero_dec:(#[.int .u8 0,.int .u8 0,.int .u8 0,.int .u8 0,.int .u8 0,.int .u8 0,.int .u8 0,.int .u8 0,.int .u8 0,.int .u8 0,.int .u8 0,.int .u8 0,.int .u8 0,.int .u8 0,.int .u8 0,.int .u8 0,.int .u8 0,.int .u8 0,.int .u8 0,.int .u8 0,.int .u8 0,.int .u8 0,.int .u8 0,.int .u8 0,.int .u8 0,.int .u8 0,.int .u8 0,.int .u8 0,.int .u8 0,.int .u8 0,.int .u8 0,.int .u8 0,.int .u8 0,.int .u8 0,.int .u8 0,.int .u8 0,.int .u8 0,.int .u8 0,.int .u8 0,.int .u8 0,.int .u8 0,.int .u8 0,.int .u8 0,.int .u8 0,.int .u8 0,.int .u8 0,.int .u8 0,.int .u8 0,.int .u8 0,.int .u8 0,.int .u8 0,.int .u8 0,.int .u8 0,.int .u8 0,.int .u8 0,.int .u8 0,.int .u8 0,.int .u8 0,.int .u8 0,.int .u8 0,.int .u8 0,.int .u8 0,.int .u8 0,.int .u8 0]:Array Value)=decCells (fun _ _=>0):=zK
theorem bits_or {a b:Nat}(ha:a≤3)(hb:b≤3):bits .or .u8 (a:Int) (b:Int)=((a ||| b:Nat):Int):=by
 have h1:a=0∨a=1∨a=2∨a=3:=by omega
 have h2:b=0∨b=1∨b=2∨b=3:=by omega
 rcases h1 with rfl|rfl|rfl|rfl<;>rcases h2 with rfl|rfl|rfl|rfl<;>rfl
theorem or_le {a b:Nat}(ha:a≤3)(hb:b≤3):a ||| b≤3:=by
 have h1:a=0∨a=1∨a=2∨a=3:=by omega
 have h2:b=0∨b=1∨b=2∨b=3:=by omega
 rcases h1 with rfl|rfl|rfl|rfl<;>rcases h2 with rfl|rfl|rfl|rfl<;>decide
def decOr (d:Nat→Nat→Nat)(x y what:Nat):Nat→Nat→Nat:=fun a b=>if a=x∧b=y then d x y ||| what else d a b
def decWith (d:Nat→Nat→Nat)(x y what:Nat):Nat→Nat→Nat:=decOr (decOr d x y what) y x what
theorem decOr_le {d:Nat→Nat→Nat}{x y what:Nat}(hd:∀a b,d a b≤3)(hw:what≤3):∀a b,decOr d x y what a b≤3:=by
 intro a b;unfold decOr
 split
 ·exact or_le (hd _ _) hw
 ·exact hd _ _
theorem decWith_le {d:Nat→Nat→Nat}{x y what:Nat}(hd:∀a b,d a b≤3)(hw:what≤3):∀a b,decWith d x y what a b≤3:=decOr_le (decOr_le hd hw) hw
theorem dec_put {W:World}{B:Nat}{d:Nat→Nat→Nat}{x y what:Nat}(h:Box W B (decCells d) 227)(hx:x<8)(hy:y<8)(hd:∀a b,d a b≤3)(hw:what≤3):
 Box (W.setCell ⟨B,x*8+y,none⟩ (.int .u8 (bits .or .u8 (d x y:Nat) (what:Nat)))) B (decCells (decOr d x y what)) 227:=by
 rw[bits_or (hd x y) hw];have:=h.set_ (x*8+y) (.int .u8 ((d x y ||| what:Nat):Int));rw[dec_set d hx hy] at this;exact this
theorem results_cell {P:Program}{fn:Func}{t:Tmp}{ty:TypeId}(h:fn.results = #[.cell t ty]){tmps:Array Value}{w:World}{p:Addr}{v:Value}(hp:tmps.getD t undef = .pointer (some p))
 (hr:(loadVar ty p).run P w = .ok v w):(results fn tmps).run P w = .ok v w:=by
 have hp':tmps[t]?.getD undef = .pointer (some p):=by simpa using hp
 simp[results,h,hp',asAddr,hr]
theorem decWith_any (d:Nat→Nat→Nat)(x y what:Nat)(w:World)(hx:x<8)(hy:y<8)(hd:∀a b,d a b≤3)(hwh:what≤3):
 Calls Tryz.prog 222 #[.agg (decCells d),.int .i64 x,.int .i64 y,.int .u8 what] w (fun e w'=>e = .returned (.agg (decCells (decWith d x y what)))∧Below w.heap.size w w'):=by
 have hx8:(x:Int)<8:=by omega
 have hy8:(y:Int)<8:=by omega
 obtain⟨w2,hw2⟩:=zx ((w.alloc (.cells (decCells d) 227)).alloc (.cells #[.int .u8 0,.int .u8 0,.int .u8 0,.int .u8 0,.int .u8 0,.int .u8 0,.int .u8 0,.int .u8 0,.int .u8 0,.int .u8 0,.int .u8 0,.int .u8 0,.int .u8 0,.int .u8 0,.int .u8 0,.int .u8 0,.int .u8 0,.int .u8 0,.int .u8 0,.int .u8 0,.int .u8 0,.int .u8 0,.int .u8 0,.int .u8 0,.int .u8 0,.int .u8 0,.int .u8 0,.int .u8 0,.int .u8 0,.int .u8 0,.int .u8 0,.int .u8 0,.int .u8 0,.int .u8 0,.int .u8 0,.int .u8 0,.int .u8 0,.int .u8 0,.int .u8 0,.int .u8 0,.int .u8 0,.int .u8 0,.int .u8 0,.int .u8 0,.int .u8 0,.int .u8 0,.int .u8 0,.int .u8 0,.int .u8 0,.int .u8 0,.int .u8 0,.int .u8 0,.int .u8 0,.int .u8 0,.int .u8 0,.int .u8 0,.int .u8 0,.int .u8 0,.int .u8 0,.int .u8 0,.int .u8 0,.int .u8 0,.int .u8 0,.int .u8 0] 227))
 have hB2:Below w.heap.size w w2:=by rw[←hw2];go_grown
 have b0:Box w2 w.heap.size (decCells d) 227:=by rw[←hw2];exact(Box.new _ _ _).alloc _
 have b1:Box w2 (w.heap.size+1) (decCells fun _ _=>0) 227:=by rw[←hw2,zero_dec];exact Box.new' zS
 have c1:w2.cell? ⟨w.heap.size,x*8+y,none⟩=some (.int .u8 (d x y:Nat)):=by rw[b0.cell,decCells_at _ hx hy]
 have f1:=b0.frozen;have B0:=zh b0;have B1:=zh b1;have HW:=zh hw2;clear b0 b1 hw2
 go_enter Tryz.func222,Tryz.ntmps222
 go_upto_region 1 with fail
 simp only[HW.out]
 go_region
 have g0:=(dec_put B0.out hx hy hd hwh).drew;have g1:=(B1.out.far (p:=⟨w.heap.size,x*8+y,none⟩) zS (.int .u8 (bits .or .u8 (d x y:Nat) (what:Nat)))).drew;have gB:=(hB2.setCell (p:=⟨w.heap.size,x*8+y,none⟩) zS (.int .u8 (bits .or .u8 (d x y:Nat) (what:Nat)))).drew;have hd1:=decOr_le (x:=x) (y:=y) hd hwh;clear B0 B1 HW c1 f1 hB2;generalize (w2.setCell ⟨w.heap.size,x*8+y,none⟩ (.int .u8 (bits .or .u8 (d x y:Nat) (what:Nat)))).drew=w3 at *;have c1:w3.cell? ⟨w.heap.size,y*8+x,none⟩=some (.int .u8 (decOr d x y what y x:Nat)):=by rw[g0.cell,decCells_at _ hy hx]
 have f1:=g0.frozen;have G0:=zh g0;have G1:=zh g1;clear g0 g1
 go_wp2_with fail
 go_region
 have g0:=(dec_put G0.out hy hx hd1 hwh).drew;have g1:=(G1.out.far (p:=⟨w.heap.size,y*8+x,none⟩) zS (.int .u8 (bits .or .u8 (decOr d x y what y x:Nat) (what:Nat)))).drew;have gB2:=(gB.setCell (p:=⟨w.heap.size,y*8+x,none⟩) zS (.int .u8 (bits .or .u8 (decOr d x y what y x:Nat) (what:Nat)))).drew;clear G0 G1 c1 f1 gB;generalize (w3.setCell ⟨w.heap.size,y*8+x,none⟩ (.int .u8 (bits .or .u8 (decOr d x y what y x:Nat) (what:Nat)))).drew=w4 at *;have hL:=run_load_row (P:=Tryz.prog) g0 Tryz.underlying227 rfl (dec_info _);have hS:=run_store_row (P:=Tryz.prog) (T:=decCells (decOr (decOr d x y what) y x what)) g1 (dec_info _) (by rw[decCells_size,decCells_size]) (dec_one _)
 go_wp2_with (first
  |(refine wpList_load_box rfl 227 _ rfl rfl hL ?_)
  |(refine wpList_store_box rfl 227 _ _ rfl rfl rfl hS ?_))
 refine bodyPost_ret (results_cell rfl rfl (run_loadVar_row _ _ 227 227 _ (0,0) _ g1.setRow_same Tryz.underlying227 rfl (dec_info _))) rfl ?_;exact⟨rfl,below_setRow gB2 zO _⟩
def ofCells (f:Nat→Nat):Array Value:=((List.range 8).map fun i=>Value.int .i64 (f i:Nat)).toArray
theorem ofCells_size (f:Nat→Nat):(ofCells f).size=8:=by simp[ofCells]
theorem of_at (f:Nat→Nat)(i:Nat):(ofCells f)[i]?=if i<8 then some (.int .i64 (f i:Nat)) else none:=by
 unfold ofCells;rw[List.getElem?_toArray,List.getElem?_map]
 split
 ·rw[List.getElem?_range zO];rfl
 ·rw[List.getElem?_eq_none zT];rfl
def upd (f:Nat→Nat)(x v:Nat):Nat→Nat:=fun i=>if i=x then v else f i
theorem of_set (f:Nat→Nat){x:Nat}(hx:x<8)(v:Nat):(ofCells f).setIfInBounds x (.int .i64 (v:Nat))=ofCells (upd f x v):=by
 apply Array.ext_getElem?
 intro i;rw[Array.getElem?_setIfInBounds,of_at,of_at,ofCells_size]
 by_cases h:x=i
 ·subst h;rw[if_pos rfl,if_pos hx]
  simp[upd,hx]
 ·rw[if_neg h];have h3:¬i=x:=fun e=>h e.symm
  simp[upd,h3]
theorem of_one (f:Nat→Nat):(ofCells f).all (·.oneCell')=true:=by
 refine Array.all_eq_true_iff_forall_mem.2 fun v hv=>?_
 simp[ofCells] at hv
 obtain⟨i,_,rfl⟩:=hv
 rfl
theorem of_info (f:Nat→Nat):(Tryz.prog.info? 230).map (·.size)=some (ofCells f).size:=by rw[ofCells_size];kernel_rfl
theorem int_cells:Tryz.prog.cellsOf 3=1:=zK
theorem int_plain:Tryz.prog.plainKey 3=true:=zK
theorem run_eqItems_of (f g:Nat→Nat)(w:World):∀is:List Nat,(∀i∈is,i<8)→(Op.eqItems 9999 3 (Tryz.prog.cellsOf 3) (ofCells f) (ofCells g) is).run Tryz.prog w = .ok (decide (∀i∈is,f i=g i)) w
 |[],_=>by simp[Op.eqItems]
 |i::is,h=>by
  have h1:(part 3 (ofCells f) (i*Tryz.prog.cellsOf 3)).run Tryz.prog w = .ok (.int .i64 (f i:Nat)) w:=run_part_plain w int_plain (by rw[int_cells,Nat.mul_one,of_at,if_pos (h i zS)]);have h2:(part 3 (ofCells g) (i*Tryz.prog.cellsOf 3)).run Tryz.prog w = .ok (.int .i64 (g i:Nat)) w:=run_part_plain w int_plain (by rw[int_cells,Nat.mul_one,of_at,if_pos (h i zS)]);have h3:=run_equalIn_int (P:=Tryz.prog) w 9998 3 .i64 .i64 (f i:Nat) (g i:Nat) Tryz.underlying3;have ih:=run_eqItems_of f g w is (fun j hj=>h j (by simp[hj]));simp only[Op.eqItems,Sem.run_bind,h1,h2,h3,Result.andThen_ok]
  by_cases e:f i=g i
  ·have e2:((f i:Int)==(g i:Int))=true:=by simp[e]
   simp only[e2,Bool.not_true,Bool.false_eq_true,if_false,ih]
   simp[e]
  ·have e2:((f i:Int)==(g i:Int))=false:=by simp;omega
   simp only[e2,Bool.not_false,if_true,Sem.run_pure]
   simp[e]
theorem run_equalIn_of (f g:Nat→Nat)(w:World):(Op.equalIn 10000 230 (.agg (ofCells f)) (.agg (ofCells g))).run Tryz.prog w = .ok (decide (∀i∈List.range 8,f i=g i)) w:=by
 obtain⟨i,hi⟩:∃i,Tryz.prog.info? 3=some i:=info_of_underlying Tryz.underlying3;have h:=run_equalIn_array (P:=Tryz.prog) w 9999 (t:=230) (e:=3) (n:=8) (ofCells f) (ofCells g) Tryz.underlying230 hi;rw[show 10000=9999+1 from rfl,h,run_eqItems_of f g w _ zS]
theorem of_congr {f g:Nat→Nat}(h:∀i∈List.range 8,f i=g i):ofCells f=ofCells g:=by
 unfold ofCells
 congr 1
 exact List.map_congr_left fun i hi=>by rw[h i hi]
theorem of_ext {f g:Nat→Nat}(h:ofCells f=ofCells g):∀i∈List.range 8,f i=g i:=by
 intro i hi;have h8:i<8:=by simpa using hi
 have:=congrArg (·[i]?) h;simp only[of_at,if_pos h8] at this;simp at this
 omega
def stepOf (d:Nat→Nat→Nat)(f:Nat→Nat)(x y:Nat):Nat→Nat:=if d x y &&& 1≠0 then upd (upd f x (min (f x) (f y))) y (min (f x) (f y)) else f
def rowP (d:Nat→Nat→Nat)(x:Nat)(f:Nat→Nat):Nat→Nat→Nat
 |0=>f
 |y+1=>stepOf d (rowP d x f y) x y
def passP (d:Nat→Nat→Nat)(n:Nat)(f:Nat→Nat):Nat→Nat→Nat
 |0=>f
 |x+1=>rowP d x (passP d n f x) n
def clsGo (d:Nat→Nat→Nat)(n:Nat):Nat→Nat→Nat
 |0=>fun i=>i
 |k+1=>passP d n (clsGo d n k) n
def clsOf (d:Nat→Nat→Nat)(n:Nat):Nat→Nat:=clsGo d n 60
def sum8 (f:Nat→Nat):Nat:=f 0+f 1+f 2+f 3+f 4+f 5+f 6+f 7
def Low (f g:Nat→Nat):Prop:=∀i,f i≤g i
theorem Low.refl (f:Nat→Nat):Low f f:=fun _=>Nat.le_refl _
theorem Low.trans {f g h:Nat→Nat}(a:Low f g)(b:Low g h):Low f h:=fun i=>Nat.le_trans (a i) (b i)
theorem stepOf_low (d:Nat→Nat→Nat)(f:Nat→Nat)(x y:Nat):Low (stepOf d f x y) f:=by
 intro i;unfold stepOf
 split
 ·simp only[upd]
  split
  ·rename_i h;subst h;exact Nat.min_le_right _ _
  ·split
   ·rename_i h;subst h;exact Nat.min_le_left _ _
   ·exact Nat.le_refl _
 ·exact Nat.le_refl _
theorem rowP_low (d:Nat→Nat→Nat)(x:Nat)(f:Nat→Nat):∀y,Low (rowP d x f y) f
 |0=>Low.refl _
 |y+1=>(stepOf_low d _ x y).trans (rowP_low d x f y)
theorem passP_low (d:Nat→Nat→Nat)(n:Nat)(f:Nat→Nat):∀x,Low (passP d n f x) f
 |0=>Low.refl _
 |x+1=>(rowP_low d x _ n).trans (passP_low d n f x)
theorem sum_lt {f g:Nat→Nat}(h:Low f g)(hne:ofCells f≠ofCells g):sum8 f<sum8 g:=by
 rcases Nat.lt_or_ge (sum8 f) (sum8 g) with hl|hl
 ·exact hl
 ·exfalso
  apply hne
  have h0:=h 0;have h1:=h 1;have h2:=h 2;have h3:=h 3;have h4:=h 4;have h5:=h 5;have h6:=h 6;have h7:=h 7;unfold sum8 at hl
  apply Array.ext_getElem?
  intro i;rw[of_at,of_at]
  by_cases hi:i<8
  ·rw[if_pos hi,if_pos hi];have:f i=g i:=by
    have:i=0∨i=1∨i=2∨i=3∨i=4∨i=5∨i=6∨i=7:=by omega
    rcases this with rfl|rfl|rfl|rfl|rfl|rfl|rfl|rfl<;>omega
   rw[this]
  ·rw[if_neg hi,if_neg hi]
theorem zero_of:(#[.int .i64 0,.int .i64 0,.int .i64 0,.int .i64 0,.int .i64 0,.int .i64 0,.int .i64 0,.int .i64 0]:Array Value)=ofCells (fun _=>0):=zK
def ini (k:Nat):Nat→Nat:=fun j=>if j<k then j else 0
theorem ini_zero:ini 0=fun _=>0:=by funext j;simp[ini]
theorem ini_succ (k:Nat):upd (ini k) k k=ini (k+1):=by
 funext j
 simp only[upd,ini]
 split
 ·rename_i h;subst h;simp
 ·split
  ·rw[if_pos zO]
  ·rw[if_neg zO]
theorem ini_end:ofCells (ini 8)=ofCells (fun i=>i):=zK
structure ClsW (d:Nat→Nat→Nat) (w:World) (f:Nat→Nat) (W:World):Prop where
 db:Box W w.heap.size (decCells d) 227
 rb:Box W (w.heap.size+1) (ofCells fun _=>0) 230
 ob:Box W (w.heap.size+2) (ofCells f) 230
 old:Below w.heap.size w W
theorem ClsW.put {d:Nat→Nat→Nat}{w W:World}{f:Nat→Nat}(h:ClsW d w f W){x:Nat}(hx:x<8)(v:Nat):ClsW d w (upd f x v) (W.setCell ⟨w.heap.size+2,x,none⟩ (.int .i64 (v:Nat))):=
 ⟨h.db.far zS _,h.rb.far zS _,by rw[←of_set f hx];exact h.ob.set_ _ _,h.old.setCell zS _⟩
theorem ClsW.drewN {d:Nat→Nat→Nat}{w W:World}{f:Nat→Nat}(h:ClsW d w f W)(m:Nat):ClsW d w f (W.drewN m):=⟨h.db,h.rb,h.ob,below_drewN h.old m⟩
theorem ClsW.at_ {d:Nat→Nat→Nat}{w W:World}{f:Nat→Nat}(h:ClsW d w f W){x:Nat}(hx:x<8):W.cell? ⟨w.heap.size+2,x,none⟩=some (.int .i64 (f x:Nat)):=by rw[h.ob.cell,of_at,if_pos hx]
theorem bits_and1 {a:Nat}(ha:a≤3):bits .and .u8 (a:Int) 1=((a &&& 1:Nat):Int):=by
 have h1:a=0∨a=1∨a=2∨a=3:=by omega
 rcases h1 with rfl|rfl|rfl|rfl<;>rfl
theorem or1 {a:Nat}(ha:a≤3):a &&& 1=0∨a &&& 1=1:=by
 have h1:a=0∨a=1∨a=2∨a=3:=by omega
 rcases h1 with rfl|rfl|rfl|rfl<;>decide
def sumW (b:Nat)(W:World):Nat:=((List.range 8).map fun i=>match W.cell? ⟨b,i,none⟩ with|some (.int _ v)=>v.toNat|_=>0).sum
theorem ClsW.sum {d:Nat→Nat→Nat}{w W:World}{f:Nat→Nat}(h:ClsW d w f W):sumW (w.heap.size+2) W=sum8 f:=by
 have a0:=h.at_ (x:=0) zO;have a1:=h.at_ (x:=1) zO;have a2:=h.at_ (x:=2) zO;have a3:=h.at_ (x:=3) zO;have a4:=h.at_ (x:=4) zO;have a5:=h.at_ (x:=5) zO;have a6:=h.at_ (x:=6) zO;have a7:=h.at_ (x:=7) zO;have e:List.range 8=[0,1,2,3,4,5,6,7]:=rfl;simp only[sumW,e,List.map_cons,List.map_nil,a0,a1,a2,a3,a4,a5,a6,a7,Int.toNat_natCast,List.sum_cons,List.sum_nil,sum8]
 omega
theorem stepOf_congr (d:Nat→Nat→Nat){f g:Nat→Nat}{n:Nat}(hn:n≤8)(h:∀i,i<8→f i=g i){x y:Nat}(hx:x<n)(hy:y<n):∀i,i<8→stepOf d f x y i=stepOf d g x y i:=by
 intro i hi;unfold stepOf
 split
 ·simp only[upd,h x zO,h y zO,h i hi]
 ·exact h i hi
theorem rowP_congr (d:Nat→Nat→Nat){f g:Nat→Nat}{n:Nat}(hn:n≤8)(h:∀i,i<8→f i=g i){x:Nat}(hx:x<n):∀y,y≤n→∀i,i<8→rowP d x f y i=rowP d x g y i
 |0,_=>h
 |y+1,hy=>stepOf_congr d hn (rowP_congr d hn h hx y zO) hx zO
theorem passP_congr (d:Nat→Nat→Nat){f g:Nat→Nat}{n:Nat}(hn:n≤8)(h:∀i,i<8→f i=g i):∀x,x≤n→∀i,i<8→passP d n f x i=passP d n g x i
 |0,_=>h
 |x+1,hx=>rowP_congr d hn (passP_congr d hn h x zO) zO n (Nat.le_refl _)
theorem cls_stay {d:Nat→Nat→Nat}{n k:Nat}(hn:n≤8)(h:∀i∈List.range 8,clsGo d n (k+1) i=clsGo d n k i):∀m,k≤m→∀i,i<8→clsGo d n m i=clsGo d n k i:=by
 intro m hm;obtain⟨j,rfl⟩:=Nat.exists_eq_add_of_le hm;clear hm
 induction j with
 |zero=>exact fun _ _=>rfl
 |succ j ih=>
  intro i hi;have h1:clsGo d n (k+(j+1)) i=passP d n (clsGo d n (k+j)) n i:=rfl;rw[h1,passP_congr d hn ih n (Nat.le_refl _) i hi];exact h i (by simpa using hi)
theorem cls_done {d:Nat→Nat→Nat}{n:Nat}(hn:n≤8):∀k,(∀j,j<k→ofCells (clsGo d n (j+1))≠ofCells (clsGo d n j))→k+sum8 (clsGo d n k)≤28
 |0,_=>Nat.le_of_eq rfl
 |k+1,h=>by
  have h1:=cls_done hn k (fun j hj=>h j zO);have h2:=sum_lt (f:=clsGo d n (k+1)) (g:=clsGo d n k) (passP_low d n _ n) (h k zO)
  omega
theorem cls_fix {d:Nat→Nat→Nat}{n k:Nat}(hn:n≤8)(hk:∀j,j<k→ofCells (clsGo d n (j+1))≠ofCells (clsGo d n j))(h:∀i∈List.range 8,clsGo d n (k+1) i=clsGo d n k i):ofCells (clsGo d n (k+1))=ofCells (clsOf d n):=by
 refine of_congr fun i hi=>?_
 have h8:i<8:=by simpa using hi
 have h1:=cls_done hn k hk;rw[h i hi,clsOf,cls_stay hn h 60 zO i h8]
theorem classes_any (d:Nat→Nat→Nat)(n:Nat)(w:World)(hn:n≤8)(hd:∀a b,d a b≤3):
 Calls Tryz.prog 239 #[.agg (decCells d),.int .i64 n] w (fun e w'=>e = .returned (.agg (ofCells (clsOf d n)))∧Below w.heap.size w w'):=by
 go_enter Tryz.func239,Tryz.ntmps239
 go_upto_region 2 with fail
 simp only[zero_of,Nat.add_assoc,Nat.reduceAdd];have h0:ClsW d w (ini 0) (((w.alloc (.cells (decCells d) 227)).alloc (.cells (ofCells fun _=>0) 230)).alloc (.cells (ofCells fun _=>0) 230)):=by
  rw[ini_zero];exact⟨((Box.new _ _ _).alloc _).alloc _,(Box.new' zS).alloc _,Box.new' zS,by go_grown⟩
 generalize (((w.alloc (.cells (decCells d) 227)).alloc (.cells (ofCells fun _=>0) 230)).alloc (.cells (ofCells fun _=>0) 230))=w2 at *;have H0:=zh h0;clear h0
 go_wp2_with fail
 go_loopw [11] (fun i wr=>∃k:Nat,k≤8∧i = .int .i64 k∧ClsW d w (ini k) wr) (fun i _=>8-(intOf i).toNat)
 case atStart=>exact⟨0,zO,rfl,H0.out⟩
 case round=>
  clear H0;obtain⟨k,hk,rfl,hst⟩:=hrel;have f2:=hst.ob.frozen
  by_cases hlt:k<8
  ·have hk8:(k:Int)<8:=by omega
   have c2:=hst.at_ hlt;have HS:=zh hst;clear hst
   go_wp2_with fail
   go_roundw
   case rel=>exact⟨k+1,zO,zN,by rw[←ini_succ];exact HS.out.put hlt k⟩
   case measure=>exact zJ
  ·have hk8:¬(k:Int)<8:=by omega
   have hst':ClsW d w (clsGo d n 0) wr:=by
    have e:k=8:=by omega
    rw[e] at hst;exact⟨hst.db,hst.rb,by rw[show clsGo d n 0=fun i=>i from rfl,←ini_end];exact hst.ob,hst.old⟩
   have HS:=zh hst';clear hst hst' f2
   go_wp2_with fail
   go_loopw [] (fun wr=>∃k:Nat,(∀j,j<k→ofCells (clsGo d n (j+1))≠ofCells (clsGo d n j))∧ClsW d w (clsGo d n k) wr) (fun wr=>sumW (w.heap.size+2) wr)
   case atStart=>exact⟨0,fun j hj=>absurd hj (Nat.not_lt_zero j),HS.out⟩
   case round=>
    clear HS;obtain⟨k,hjk,hst⟩:=hrel;have HJK:=zh hjk;have HSUM:=zh hst.sum;clear hjk;have hL:=run_load_row (P:=Tryz.prog) hst.ob Tryz.underlying230 rfl (of_info _);have HS:=zh hst;clear hst;have hS:=run_store_row (P:=Tryz.prog) (T:=ofCells (clsGo d n k)) (Box.new wr #[.int .i64 0,.int .i64 0,.int .i64 0,.int .i64 0,.int .i64 0,.int .i64 0,.int .i64 0,.int .i64 0] 230) (of_info _) (by rw[zero_of,ofCells_size,ofCells_size]) (of_one _);obtain⟨wb,hwb⟩:=zx (wr.heap.size);have hwlt:w.heap.size+2<wb:=by rw[←hwb];exact HS.out.ob.lt
    have h1:ClsW d w (passP d n (clsGo d n k) 0) ((wr.alloc (.cells #[.int .i64 0,.int .i64 0,.int .i64 0,.int .i64 0,.int .i64 0,.int .i64 0,.int .i64 0,.int .i64 0] 230)).setRow wr.heap.size (ofCells (clsGo d n k))):=
     ⟨(HS.out.db.alloc _).setRow_far (by have:=HS.out.db.lt;omega),(HS.out.rb.alloc _).setRow_far (by have:=HS.out.rb.lt;omega),(HS.out.ob.alloc _).setRow_far zO,below_setRow (HS.out.old.alloc zO _) zO _⟩
    have h2:Box ((wr.alloc (.cells #[.int .i64 0,.int .i64 0,.int .i64 0,.int .i64 0,.int .i64 0,.int .i64 0,.int .i64 0,.int .i64 0] 230)).setRow wr.heap.size (ofCells (clsGo d n k))) wb (ofCells (clsGo d n k)) 230:=by rw[←hwb];exact(Box.new _ _ _).setRow_same
    rw[hwb] at hS h1 h2;have H1:=zh h1;have H2:=zh h2;clear h1 h2
    go_wp2_with (first
     |(refine wpList_load_box rfl 230 _ rfl rfl hL ?_)
     |(refine wpList_store_box rfl 230 _ _ rfl rfl rfl hS ?_))
    generalize ((wr.alloc (.cells #[.int .i64 0,.int .i64 0,.int .i64 0,.int .i64 0,.int .i64 0,.int .i64 0,.int .i64 0,.int .i64 0] 230)).setRow wb (ofCells (clsGo d n k)))=w5 at *;clear hL hS
    go_loopw [20] (fun i wq=>∃x:Nat,x≤n∧i = .int .i64 x∧ClsW d w (passP d n (clsGo d n k) x) wq∧Box wq wb (ofCells (clsGo d n k)) 230) (fun i _=>n-(intOf i).toNat)
    case atStart=>exact⟨0,Nat.zero_le _,rfl,H1.out,H2.out⟩
    case round=>
     clear H1 H2;obtain⟨x,hx,rfl,h1,h2⟩:=hrel;have H1:=zh h1;have H2:=zh h2
     by_cases hxn:x<n
     ·clear h1 h2
      go_wp2_with fail
      obtain⟨wo,hwo⟩:∃wo:World,wo=wr:=⟨_,rfl⟩
      subst hwo
      go_loopw [24] (fun i wq=>∃y:Nat,y≤n∧i = .int .i64 y∧ClsW d w (rowP d x (passP d n (clsGo d n k) x) y) wq∧Box wq wb (ofCells (clsGo d n k)) 230) (fun i _=>n-(intOf i).toNat)
      case atStart=>exact⟨0,Nat.zero_le _,rfl,H1.out,H2.out⟩
      case round=>
       clear H1 H2;obtain⟨y,hy,rfl,h1,h2⟩:=hrel
       by_cases hyn:y<n
       ·have hx8:(x:Int)<8:=by omega
        have hy8:(y:Int)<8:=by omega
        have c0:wr.cell? ⟨w.heap.size,x*8+y,none⟩=some (.int .u8 (d x y:Nat)):=by rw[h1.db.cell,decCells_at _ zO zO]
        have cx:=h1.at_ (x:=x) zO;have cy:=h1.at_ (x:=y) zO;have f2:=h1.ob.frozen;have hbb:=bits_and1 (hd x y);have H1:=zh h1;have H2:=zh h2;clear h1 h2
        by_cases hb1:d x y &&& 1=0
        ·rw[hb1] at hbb;have HB1:=zh hb1;clear hb1
         go_wp2_with fail
         go_roundw
         case rel=>exact⟨y+1,zO,zN,by rw[rowP,stepOf,if_neg (by rw[HB1.out];simp)];exact H1.out,H2.out⟩
         case measure=>exact zJ
        ·have hb2:d x y &&& 1=1:=by have:=or1 (hd x y);omega
         rw[hb2] at hbb;have HB1:=zh hb1;clear hb1 hb2
         by_cases hxy:x=y
         ·subst hxy;have hmin:min (rowP d x (passP d n (clsGo d n k) x) x x) (rowP d x (passP d n (clsGo d n k) x) x x)=rowP d x (passP d n (clsGo d n k) x) x x:=Nat.min_self _
          go_wp2_with fail
          go_quiet (fail)
          go_wp2_with fail
          go_roundw
          case rel=>exact⟨x+1,zO,zN,by
           rw[rowP,stepOf,if_pos HB1.out,hmin];exact((H1.out.drewN nq).put (x:=x) zO _).put (x:=x) zO _,(((H2.out.drewN nq).far (p:=⟨w.heap.size+2,x,none⟩) zT _).far (p:=⟨w.heap.size+2,x,none⟩) zT _)⟩
          case measure=>exact zJ
         ·have hyx:¬y=x:=fun e=>hxy e.symm
          rcases Nat.lt_or_ge (rowP d x (passP d n (clsGo d n k) x) y y) (rowP d x (passP d n (clsGo d n k) x) y x) with hle|hle
          ·have hlei:((rowP d x (passP d n (clsGo d n k) x) y y:Nat):Int)<((rowP d x (passP d n (clsGo d n k) x) y x:Nat):Int):=by omega
           have hmin:min (rowP d x (passP d n (clsGo d n k) x) y x) (rowP d x (passP d n (clsGo d n k) x) y y)=rowP d x (passP d n (clsGo d n k) x) y y:=Nat.min_eq_right (Nat.le_of_lt hle)
           go_wp2_with fail
           go_quiet (fail)
           go_wp2_with fail
           go_roundw
           case rel=>exact⟨y+1,zO,zN,by
            rw[rowP,stepOf,if_pos HB1.out,hmin];exact((H1.out.drewN nq).put (x:=x) zO _).put (x:=y) zO _,(((H2.out.drewN nq).far (p:=⟨w.heap.size+2,x,none⟩) zT _).far (p:=⟨w.heap.size+2,y,none⟩) zT _)⟩
           case measure=>exact zJ
          ·have hlei:((rowP d x (passP d n (clsGo d n k) x) y x:Nat):Int)≤((rowP d x (passP d n (clsGo d n k) x) y y:Nat):Int):=by omega
           have hmin:min (rowP d x (passP d n (clsGo d n k) x) y x) (rowP d x (passP d n (clsGo d n k) x) y y)=rowP d x (passP d n (clsGo d n k) x) y x:=Nat.min_eq_left hle
           go_wp2_with fail
           go_quiet (fail)
           go_wp2_with fail
           go_roundw
           case rel=>exact⟨y+1,zO,zN,by
            rw[rowP,stepOf,if_pos HB1.out,hmin];exact((H1.out.drewN nq).put (x:=x) zO _).put (x:=y) zO _,(((H2.out.drewN nq).far (p:=⟨w.heap.size+2,x,none⟩) zT _).far (p:=⟨w.heap.size+2,y,none⟩) zT _)⟩
           case measure=>exact zJ
       ·have e:y=n:=by omega
        rw[e] at h1;have H1:=zh h1;have H2:=zh h2;clear h1 h2 e
        go_wp2_with fail
        go_roundw
        case rel=>exact⟨x+1,zO,zN,H1.out,H2.out⟩
        case measure=>exact zJ
     ·have e:x=n:=by omega
      rw[e] at h1;have h3:ClsW d w (clsGo d n (k+1)) wr:=h1;have hL1:=run_load_row (P:=Tryz.prog) h3.ob Tryz.underlying230 rfl (of_info _);have hL2:=run_load_row (P:=Tryz.prog) h2 Tryz.underlying230 rfl (of_info _);have H3:=zh h3;clear h1 h3 H1 e
      by_cases hce:∀i∈List.range 8,clsGo d n (k+1) i=clsGo d n k i
      ·have hE:(Op.equalIn 10000 230 (.agg (ofCells (clsGo d n (k+1)))) (.agg (ofCells (clsGo d n k)))).run Tryz.prog wr = .ok (.true) wr:=by
        rw[run_equalIn_of];simp only[decide_eq_true hce]
       have hfix:=cls_fix hn HJK.out hce;have HF:=zh hfix;have HC:=zh hce;have hS0:=run_store_row (P:=Tryz.prog) (T:=ofCells (clsGo d n (k+1))) H3.out.rb (of_info _) (by rw[ofCells_size,ofCells_size]) (of_one _);clear hfix hce
       go_wp2_with (first
        |(refine wpList_load_box rfl 230 _ rfl rfl hL1 ?_)
        |(refine wpList_load_box rfl 230 _ rfl rfl hL2 ?_)
        |(refine wpList_store_box rfl 230 _ _ rfl rfl rfl hS0 ?_))
       refine bodyPost_ret (results_cell rfl rfl (run_loadVar_row _ _ 230 230 _ (0,0) _ H3.out.rb.setRow_same Tryz.underlying230 rfl (of_info _))) rfl ?_;exact⟨by rw[HF.out],below_setRow H3.out.old zO _⟩
      ·have hE:(Op.equalIn 10000 230 (.agg (ofCells (clsGo d n (k+1)))) (.agg (ofCells (clsGo d n k)))).run Tryz.prog wr = .ok (.false) wr:=by
        rw[run_equalIn_of];simp only[decide_eq_false hce]
       have HC:=zh hce;clear hce
       go_wp2_with (first
        |(refine wpList_load_box rfl 230 _ rfl rfl hL1 ?_)
        |(refine wpList_load_box rfl 230 _ rfl rfl hL2 ?_))
       go_roundw
       case rel=>exact⟨k+1,fun j hj=>by
        rcases Nat.lt_or_ge j k with h1|h1
        ·exact HJK.out j h1
        ·have:j=k:=by omega
         subst this;exact fun e=>HC.out (of_ext e),H3.out⟩
       case measure=>
        rw[H3.out.sum,HSUM.out];exact sum_lt (passP_low d n _ n) (fun e=>HC.out (of_ext e))
