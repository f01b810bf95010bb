/- Walks and plain laws. No condition. -/
import Derived.Test.YtjgldeeianionaaGreatV10
set_option maxHeartbeats 1000000
set_option maxRecDepth 100000
set_option linter.unusedSimpArgs false
set_option linter.unusedVariables false
namespace Go.Proofs.YtjgldeeianionaaGreat
open Go.RowKit
section
attribute [local go_sem] Oper.semAt_some
theorem walk2_any (c:Cs)(n:Nat)(hn:c.parts.length=n)(hn8:n≤8)(hlim:0≤c.limit∧c.limit≤40)(pa:Option Addr)(pc:Nat)(bb:Nat)(w0:World)(hparts:PartsAt w0 pa c.parts)(v:Vis)(K:Nat)(acaps:Array Value)(Z:Nat→Prop)(J:List (Dec×Br)→World→Prop)
 (hat:AtFn c n pa pc bb w0 K acaps Z J) (hok:VisOk w0 v bb Z) (hJ:∀s A B,J s A→Keep (fun k=>k≠v.rb) A B→J s B)
 (l:List Br) (d:Dec) (db:Nat) (W:World) (hll:l.length≤1000000) (hsm:∀x∈l,x.Small) (hd:∀a b,d a b≤3) (hst:VisSt c pa pc bb w0 v K acaps l W) (hj:J [] W) (hdb:Box W db (decCells d) 227):
 Calls Tryz.prog 224 #[.pointer (some ⟨v.vb,0,none⟩),.pointer (some ⟨db,0,none⟩),.pointer (some ⟨v.rb,0,none⟩)] W fun e W'=>
  Keep (fun k=>k≠v.rb∧¬Z k) W W'∧match walkM c n (l.length+1) d l with
   |some ([],es)=>e = .returned (.tuple #[])∧J es W'
   |_=>e = .panicked [{v:=unproved,recovered:=false}]:=by
 have hL:=run_load_row (P:=Tryz.prog) hdb Tryz.underlying227 rfl (dec_info _);have e1:W.cell? ⟨v.vb,0,none⟩=some (.func (.func 220) #[] #[.pointer (some ⟨v.rb,0,none⟩),.pointer (some ⟨v.xb,0,none⟩),.pointer (some ⟨v.vb,0,none⟩),.pointer (some ⟨v.kb,0,none⟩),.pointer (some ⟨v.ab,0,none⟩)]):=by rw[hst.vis.cell];rfl
 have ih:=visit_any c n hn hn8 hlim pa pc bb w0 hparts v K acaps Z J hat hok hJ (l.length+1) l d [] W zO hll hsm hd hst hj;simp only[Vis.caps,List.append_toArray,List.nil_append,List.cons_append] at ih;have IH:=zh ih;clear ih hst
 rcases hm:walkM c n (l.length+1) d l with _|⟨r,es⟩
 ·have HM:=zh hm;clear hm
  go_enter Tryz.func224,Tryz.ntmps224
  go_wp2_with (first
   |(refine wpList_load_box rfl 227 _ rfl rfl hL ?_)
   |(go_at_call 220;refine zM IH ?_;rintro e w7 ⟨hk7,hx⟩;rw[HM.out] at hx;subst hx;have HK7:=zh hk7;clear hk7))
  exact⟨rfl,HK7.out,rfl⟩
 ·have HM:=zh hm;clear hm
  rcases r with _|⟨y,r⟩
  ·go_enter Tryz.func224,Tryz.ntmps224
   go_wp2_with (first
    |(refine wpList_load_box rfl 227 _ rfl rfl hL ?_)
    |(go_at_call 220;refine zM IH ?_;rintro e w7 ⟨hk7,hx⟩;rw[HM.out] at hx;obtain⟨rfl,hs7,hj7⟩:=hx;have HK7:=zh hk7;have HJ7:=zh hj7;obtain⟨ra,rk,hr7,_,_⟩:=hs7.rest;have e7:=hr7.cell;clear hk7 hj7 hs7 hr7)
    |(go_at_call 221;(with_reducible refine(need_ok _).mono ?_);rintro e w' ⟨rfl,rfl⟩))
   go_end0
   exact⟨HK7.out,rfl,HJ7.out⟩
  ·have hrl:((r.length:Int)+1==0)=false:=by simp;omega
   go_enter Tryz.func224,Tryz.ntmps224
   go_wp2_with (first
    |(refine wpList_load_box rfl 227 _ rfl rfl hL ?_)
    |(go_at_call 220;refine zM IH ?_;rintro e w7 ⟨hk7,hx⟩;rw[HM.out] at hx;obtain⟨rfl,hs7,hj7⟩:=hx;have HK7:=zh hk7;obtain⟨ra,rk,hr7,_,_⟩:=hs7.rest;rw[List.length_cons] at hr7;have e7:=hr7.cell;clear hk7 hj7 hs7 hr7)
    |(go_at_call 221;(with_reducible refine(need_no _).mono ?_);rintro e w' ⟨rfl,rfl⟩))
   exact⟨rfl,HK7.out,rfl⟩
def beginD (x y:Nat)(t:Bool):Dec:=decWith (fun _ _=>0) x y (if t then 1 else 2)
theorem begin_any (x y:Nat)(t:Bool)(w:World)(hx:x<8)(hy:y<8):
 Calls Tryz.prog 206 #[.int .i64 x,.int .i64 y,.bool t] w fun e w'=>e = .returned (.agg (decCells (beginD x y t)))∧Below w.heap.size w w':=by
 cases t
 ·have hw:∀W,Calls Tryz.prog 222 #[.agg (decCells fun _ _=>0),.int .i64 x,.int .i64 y,.int .u8 2] W (fun e w'=>e = .returned (.agg (decCells (decWith (fun _ _=>0) x y 2)))∧Below W.heap.size W w'):=fun W=>decWith_any (fun _ _=>0) x y 2 W hx hy zS zS
  have HC:=zh hw;clear hw
  go_enter Tryz.func206,Tryz.ntmps206
  go_wp2_with (first
   |(go_at_call 222;simp only[zero_dec];(with_reducible refine(HC.out _).mono ?_);rintro e w' ⟨rfl,hb⟩;have hbx:=(Box.new w (decCells fun _ _=>0) 227).below' hb;have hst:=run_store_row (P:=Tryz.prog) (T:=decCells (decWith (fun _ _=>0) x y 2)) hbx (dec_info _) (by rw[decCells_size,decCells_size]) (dec_one _);have HB:=zh hb;have HBX:=zh hbx;clear hb hbx)
   |(refine wpList_store_box rfl 227 _ _ rfl rfl rfl hst ?_))
  refine bodyPost_ret (results_cell rfl rfl (run_loadVar_row _ _ 227 227 _ (0,0) _ HBX.out.setRow_same Tryz.underlying227 rfl (dec_info _))) rfl ?_;exact⟨rfl,below_setRow (((Below.refl _ w).alloc (Nat.le_refl _) _).trans (HB.out.mono zS)) (Nat.le_refl _) _⟩
 ·have hw:∀W,Calls Tryz.prog 222 #[.agg (decCells fun _ _=>0),.int .i64 x,.int .i64 y,.int .u8 1] W (fun e w'=>e = .returned (.agg (decCells (decWith (fun _ _=>0) x y 1)))∧Below W.heap.size W w'):=fun W=>decWith_any (fun _ _=>0) x y 1 W hx hy zS zS
  have HC:=zh hw;clear hw
  go_enter Tryz.func206,Tryz.ntmps206
  go_wp2_with (first
   |(go_at_call 222;simp only[zero_dec];(with_reducible refine(HC.out _).mono ?_);rintro e w' ⟨rfl,hb⟩;have hbx:=(Box.new w (decCells fun _ _=>0) 227).below' hb;have hst:=run_store_row (P:=Tryz.prog) (T:=decCells (decWith (fun _ _=>0) x y 1)) hbx (dec_info _) (by rw[decCells_size,decCells_size]) (dec_one _);have HB:=zh hb;have HBX:=zh hbx;clear hb hbx)
   |(refine wpList_store_box rfl 227 _ _ rfl rfl rfl hst ?_))
  refine bodyPost_ret (results_cell rfl rfl (run_loadVar_row _ _ 227 227 _ (0,0) _ HBX.out.setRow_same Tryz.underlying227 rfl (dec_info _))) rfl ?_;exact⟨rfl,below_setRow (((Below.refl _ w).alloc (Nat.le_refl _) _).trans (HB.out.mono zS)) (Nat.le_refl _) _⟩
theorem nothing_any (p:Value)(k:Nat)(A B:Int)(many:List Int)(ma:Option Addr)(mc:Nat)(w:World):
 Calls Tryz.prog 205 #[p,.agg #[.int .u8 k,.int .i64 A,.int .i64 B,.slice ma many.length mc]] w fun e w'=>e = .returned (.tuple #[])∧Below w.heap.size w w':=by
 go_enter Tryz.func205,Tryz.ntmps205
 go_wp2
 go_end0
 exact⟨rfl,(Below.refl _ _).alloc (Nat.le_refl _) _⟩
theorem beginD_le (x y:Nat)(t:Bool):∀a b,beginD x y t a b≤3:=decWith_le zS (by cases t<;>simp)
def refutedB (c:Cs)(n:Nat)(d:Dec)(l:List Br):Option (List (Dec×Br)):=
 if 20000<l.length then none else match walkM c n (l.length+1) d l with
  |some ([],es)=>some es
  |_=>none
def WalkPost (c:Cs)(n:Nat)(d:Dec)(l:List Br)(Z:Nat→Prop)(J:Nat→List (Dec×Br)→World→Prop)(w:World)(e:Ending)(w':World):Prop:=
 Keep (fun k=>k<w.heap.size∧¬Z k) w w'∧match refutedB c n d l with
  |some es=>e = .returned (.bool true)∧∃N,J N es w'
  |none=>e = .returned (.bool false)
theorem refuted_long {c:Cs}{n:Nat}{d:Dec}{l:List Br}(h:20000<l.length):refutedB c n d l=none:=by simp[refutedB,h]
theorem walkPost_no {c:Cs}{n:Nat}{d:Dec}{l:List Br}{Z:Nat→Prop}{J:Nat→List (Dec×Br)→World→Prop}{w w':World}(h:refutedB c n d l=none)(hk:Keep (fun k=>k<w.heap.size∧¬Z k) w w'):WalkPost c n d l Z J w (.returned (.bool false)) w':=by
 refine⟨hk,?_⟩;rw[h]
theorem walkPost_yes {c:Cs}{n:Nat}{d:Dec}{l:List Br}{es:List (Dec×Br)}{Z:Nat→Prop}{J:Nat→List (Dec×Br)→World→Prop}{w w':World}{N:Nat}(h:refutedB c n d l=some es)(hk:Keep (fun k=>k<w.heap.size∧¬Z k) w w')(hj:J N es w'):WalkPost c n d l Z J w (.returned (.bool true)) w':=by
 refine⟨hk,?_⟩;rw[h];exact⟨rfl,N,hj⟩
theorem walk_any (c:Cs)(n:Nat)(hn:c.parts.length=n)(hn8:n≤8)(hlim:0≤c.limit∧c.limit≤40)(pa:Option Addr)(pc:Nat)(bb:Nat)(w0:World)(hparts:PartsAt w0 pa c.parts)(K:Nat)(acaps:Array Value)(Z:Nat→Prop)(J:Nat→List (Dec×Br)→World→Prop)
 (w:World) (hat:∀N,w.heap.size≤N→AtFn c n pa pc bb w0 K acaps Z (J N)) (hZ:∀k,Z k→w0.heap.size≤k∧k≠bb∧k<w.heap.size) (hJ:∀N s A B,J N s A→Keep (fun k=>¬(w.heap.size≤k∧k<N)) A B→J N s B)
 (l:List Br) (d:Dec) (hll:l.length≤1000000) (hsm:∀x∈l,x.Small) (hd:∀a b,d a b≤3) (hold:Below w0.heap.size w0 w) (hben:Box w bb (csCells c pa pc) 219) (hj:∀N W,w.heap.size≤N→N≤W.heap.size→Below w.heap.size w W→J N [] W) (ra:Option Addr) (rc:Nat) (hbr:BrsAt w0 ra l) (hrc:l.length≤rc):
 Calls Tryz.prog 204 #[.pointer (some ⟨bb,0,none⟩),.agg (decCells d),.slice ra l.length rc,.func (.func K) #[] acaps] w (WalkPost c n d l Z J w):=by
 have hmf:=run_mf Tryz.prog
 by_cases hlong:20000<l.length
 ·have HRR:=zh (refuted_long (c:=c) (n:=n) (d:=d) hlong);have hli:(20000:Int)<l.length:=by omega
  clear hlong
  go_enter Tryz.func204,Tryz.ntmps204
  go_wp2_with fail
  go_ret
  exact walkPost_no HRR.out (Keep.of_below (B:=w.heap.size) (by go_grown) (fun i hi _=>hi.1))
 ·have hli:(l.length:Int)≤20000:=by omega
  have HNL:=zh hlong;clear hlong
  go_enter Tryz.func204,Tryz.ntmps204
  go_wp2_with (go_at_call 219;(with_reducible refine(leaves_any _).mono ?_);rintro e w3 ⟨rfl,hm3,hb3⟩;have HM3:=zh hm3;have HB3:=zh hb3;clear hm3 hb3)
  simp only[Nat.add_assoc,Nat.reduceAdd];obtain⟨v,hv⟩:∃v:Vis,v=⟨w3.heap.size+1,w.heap.size,w3.heap.size+2,w3.heap.size,w.heap.size+2,w.heap.size+3⟩:=⟨_,rfl⟩
  obtain⟨w2,hw2⟩:=zx (((w.alloc (.cells #[.pointer (some ⟨bb,0,none⟩)] 139)).alloc (.cells (decCells d) 227)).alloc (.cells #[.func (.func K) #[] acaps] 228));have hs2:w2.heap.size=w.heap.size+3:=by rw[←hw2];simp
  have hB2:Below w.heap.size w w2:=by rw[←hw2];go_grown
  have x0:Box w2 w.heap.size #[.pointer (some ⟨bb,0,none⟩)] 139:=by rw[←hw2];exact((Box.new _ _ _).alloc _).alloc _
  have x1:Box w2 (w.heap.size+1) (decCells d) 227:=by rw[←hw2];exact(Box.new' zS).alloc _
  have x2:Box w2 (w.heap.size+2) #[.func (.func K) #[] acaps] 228:=by rw[←hw2];exact Box.new' zS
  have hb3:=HB3.out;have hm3:=HM3.out;rw[hw2] at hb3;rw[hw2,hs2] at hm3;obtain⟨w7,hw7⟩:=zx (((w3.alloc (.cells #[.map (some (w.heap.size+3))] 240)).alloc (.cells #[.slice ra l.length rc] 100)).alloc (.cells #[.func (.func 220) #[] v.caps] 242));have hs3:w.heap.size+3≤w3.heap.size:=by have:=hb3.size;omega
  have hs3':w.heap.size+3<w3.heap.size:=(Array.getElem?_eq_some_iff.1 hm3).1;have hs7:w7.heap.size=w3.heap.size+3:=by rw[←hw7];simp
  have hB7:Below w3.heap.size w3 w7:=by rw[←hw7];go_grown
  have hb37:Below w2.heap.size w2 w7:=hb3.trans (hB7.mono hb3.size);have hbw7:Below w.heap.size w w7:=hB2.trans (hb37.mono hB2.size);have y0:Box w7 w3.heap.size #[.map (some (w.heap.size+3))] 240:=by rw[←hw7];exact((Box.new _ _ _).alloc _).alloc _
  have y1:Box w7 (w3.heap.size+1) #[.slice ra l.length rc] 100:=by rw[←hw7];exact(Box.new' zS).alloc _
  have y2:Box w7 (w3.heap.size+2) #[.func (.func 220) #[] v.caps] 242:=by rw[←hw7];exact Box.new' zS
  have hst:VisSt c pa pc bb w0 v K acaps l w7:=by
   refine⟨hold.trans (hbw7.mono hold.size),hben.below' hbw7,⟨ra,rc,?_,hbr,hrc⟩,?_,?_,?_,?_,?_⟩
   ·rw[hv];exact y1
   ·rw[hv];exact x0.below' hb37
   ·rw[hv];rw[hv] at y2;exact y2
   ·rw[hv];exact y0
   ·rw[hv];exact(hB7.block _ hs3').trans hm3
   ·rw[hv];exact x2.below' hb37
  have hbl:=hben.lt;have hok:VisOk w0 v bb Z:=by
   rw[hv];have:=hold.size;exact⟨fun k hz=>by have:=hZ k hz;simp only;omega,fun k hz=>by have:=hZ k hz;simp only;omega,by simp only;omega⟩
  have hB8:Below w7.heap.size w7 (w7.alloc (.cells #[.bool false] 4)):=(Below.refl _ _).alloc (Nat.le_refl _) _;have hj8:J (w7.heap.size+1) [] (w7.alloc (.cells #[.bool false] 4)):=hj _ _ zO zS (hbw7.trans (hB8.mono hbw7.size));have hJJ:∀s A B,J (w7.heap.size+1) s A→Keep (fun k=>k≠v.rb) A B→J (w7.heap.size+1) s B:=fun s A B h hk=>hJ _ _ _ _ h (hk.mono fun i hi=>by rw[hv];simp only;omega)
  have h2:=walk2_any c n hn hn8 hlim pa pc bb w0 hparts v K acaps Z (J (w7.heap.size+1)) (hat _ zO) hok hJJ l d (w.heap.size+1) (w7.alloc (.cells #[.bool false] 4)) hll hsm hd (hst.below hB8) hj8 ((x1.below' hb37).below' hB8);have hbool:Box (w7.alloc (.cells #[.bool false] 4)) w7.heap.size #[.bool false] 4:=Box.new _ _ _;have ht:=tried_any 224 #[.pointer (some ⟨v.vb,0,none⟩),.pointer (some ⟨w.heap.size+1,0,none⟩),.pointer (some ⟨v.rb,0,none⟩)] w7
   (fun W=>Keep (fun k=>k<w.heap.size∧¬Z k) w W∧∃es,refutedB c n d l=some es∧J (w7.heap.size+1) es W) (fun W=>Keep (fun k=>k<w.heap.size∧¬Z k) w W∧refutedB c n d l=none) (enters_of Tryz.func224 zK rfl) (h2.mono ?_)
  ·rw[hv] at ht hw7;simp only[Vis.caps] at ht hw7;have HT:=zh ht;have HW7:=zh hw7;clear ht hw7 h2 hst hok hJJ hj8 hB8 hbool y0 y1 y2 x0 x1 x2 hb3 hm3 hv hw2;rw[HW7.out];refine HT.out.mono ?_;rintro e W' (⟨rfl,W,⟨hk,es,hr,hjj⟩,hkk⟩|⟨rfl,W,⟨hk,hr⟩,hkk⟩)
   ·go_wp2_with fail
    go_ret
    exact walkPost_yes hr (hk.trans (hkk.mono fun i hi=>by omega)) (hJ _ _ _ _ hjj (hkk.mono fun i hi=>by omega))
   ·go_wp2_with fail
    go_ret
    exact walkPost_no hr (hk.trans (hkk.mono fun i hi=>by omega))
  ·rintro e W ⟨hk,hm⟩;have hk2:Keep (fun k=>k<w.heap.size∧¬Z k) w W:=(Keep.of_below (hbw7.trans (hB8.mono hbw7.size)) (fun i hi _=>hi.1)).trans (hk.mono fun i hi=>⟨by rw[hv];simp only;omega,hi.2⟩);have hr0:refutedB c n d l=match walkM c n (l.length+1) d l with|some ([],es)=>some es|_=>none:=by rw[refutedB,if_neg HNL.out]
   refine⟨hk.heap ⟨by rw[hv];simp only;omega,fun hz=>by have:=hZ _ hz;omega⟩ hbool,?_⟩
   rcases hw:walkM c n (l.length+1) d l with _|⟨r,es⟩
   ·rw[hw] at hm hr0;exact .inr ⟨hm,hk2,hr0⟩
   ·rcases r with _|⟨y,r⟩
    ·rw[hw] at hm hr0;exact .inl ⟨hm.1,hk2,es,hr0,hm.2⟩
    ·rw[hw] at hm hr0;exact .inr ⟨hm,hk2,hr0⟩
theorem open_check {c:Cs}{ps:List Int}(h:openErr c ps=0):checkCase c=0:=by
 by_cases h0:checkCase c=0
 ·exact h0
 ·simp[openErr,h0] at h
theorem check_lim {c:Cs}(h:checkCase c=0):0≤c.limit∧c.limit≤40:=by
 unfold checkCase at h
 split at h
 ·cases h
 ·split at h
  ·rename_i hk
   simp only[okCase,ok0,Bool.and_eq_true] at hk
   simpa[inB] using hk.1.1.1.2
  ·cases h
theorem nothing_at (c:Cs)(n:Nat)(pa:Option Addr)(pc:Nat)(bb:Nat)(w0:World):AtFn c n pa pc bb w0 205 #[] (fun _=>False) (fun _ _=>True):=
 ⟨enters_of Tryz.func205 zK rfl,fun _ _ x _ ma mc W _ _ _ _ _ _ _=>(nothing_any _ x.kind x.a x.b x.many ma mc W).mono (by
  rintro e w' ⟨rfl,hb⟩;exact⟨rfl,trivial,Keep.of_below' hb⟩)⟩
def BoolPost (er:Int)(b:Bool)(w:World)(e:Ending)(w':World):Prop:=Below w.heap.size w w'∧e = .returned (.tuple #[.bool b,.int .i64 er])
theorem walk_plain (c:Cs)(n:Nat)(hn:c.parts.length=n)(hn8:n≤8)(hlim:0≤c.limit∧c.limit≤40)(pa:Option Addr)(pc:Nat)(bb:Nat)(w0:World)(hparts:PartsAt w0 pa c.parts)(w:World)
 (l:List Br) (d:Dec) (hll:l.length≤1000000) (hsm:∀x∈l,x.Small) (hd:∀a b,d a b≤3) (hold:Below w0.heap.size w0 w) (hben:Box w bb (csCells c pa pc) 219) (ra:Option Addr) (rc:Nat) (hbr:BrsAt w0 ra l) (hrc:l.length≤rc):
 Calls Tryz.prog 204 #[.pointer (some ⟨bb,0,none⟩),.agg (decCells d),.slice ra l.length rc,.func (.func 205) #[] #[]] w fun e w'=>e = .returned (.bool (refutedB c n d l).isSome)∧Below w.heap.size w w':=
 (walk_any c n hn hn8 hlim pa pc bb w0 hparts 205 #[] (fun _=>False) (fun _ _ _=>True) w (fun _ _=>nothing_at c n pa pc bb w0) (fun _ h=>h.elim) (fun _ _ _ _ _ _=>trivial) l d hll hsm hd hold hben (fun _ _ _ _ _=>trivial) ra rc hbr hrc).mono (by
  rintro e w' ⟨hk,hm⟩;have hb:Below w.heap.size w w':=(hk.mono fun i hi=>⟨hi,id⟩).below (Nat.le_refl _);cases hr:refutedB c n d l with
  |none=>rw[hr] at hm;exact⟨hm,hb⟩
  |some es=>rw[hr] at hm;exact⟨hm.1,hb⟩)
theorem checkRefute_any (c:Cs)(hsm:c.Small)(pa:Option Addr)(pc:Nat)(x y:Int)(t:Bool)(l:List Br)(hll:l.length≤1000000)(hls:∀z∈l,z.Small)(ra:Option Addr)(rc:Nat)(w:World)(hp:PartsAt w pa c.parts)(hbr:BrsAt w ra l)(hrc:l.length≤rc):
 Calls Tryz.prog 179 #[.agg #[.string c.ware,.int .i64 c.limit,.int .i64 c.by_,.slice pa c.parts.length pc],.int .i64 x,.int .i64 y,.bool t,.slice ra l.length rc] w
  (BoolPost (openErr c [x,y]) (openErr c [x,y]==0&&(refutedB c c.parts.length (beginD x.toNat y.toNat t) l).isSome) w):=by
 obtain⟨w2,hw2⟩:=zx (w.alloc (.cells #[.string c.ware,.int .i64 c.limit,.int .i64 c.by_,.slice pa c.parts.length pc] 24));have hB2:Below w.heap.size w w2:=by rw[←hw2];go_grown
 have e0:∀i,w2.cell? ⟨w.heap.size,i,none⟩=(#[.string c.ware,.int .i64 c.limit,.int .i64 c.by_,.slice pa c.parts.length pc]:Array Value)[i]?:=by rw[←hw2];exact(Box.new _ _ _).cell
 have hB3:Below w.heap.size w (w2.alloc (.cells #[.int .i64 x,.int .i64 y] 3)):=hB2.alloc hB2.size _;have ho:=opened_any c hsm pa pc [x,y] (some ⟨w2.heap.size,0,none⟩) 2 (w2.alloc (.cells #[.int .i64 x,.int .i64 y] 3)) (hp.below hB3) (pair_ints _ _ _ _) zS;simp only[List.length_cons,List.length_nil,Nat.zero_add,Nat.reduceAdd] at ho;have HP:=zh hp;have HW:=zh hw2;have HBR:=zh hbr;clear hp hw2 hbr
 by_cases hz:openErr c [x,y]=0
 ·have hoo:=opened_good ho hz;have h8:=check_small hz;have hx:=open_in hz x zS;have hy:=open_in hz y zS;have hlim:=check_lim (open_check hz);obtain⟨a,rfl⟩:=Int.eq_ofNat_of_zero_le hx.1;obtain⟨b,rfl⟩:=Int.eq_ofNat_of_zero_le hy.1;simp only[Int.toNat_natCast];have HO:=zh hoo;have HZ:=zh hz;clear ho hoo hz
  go_enter Tryz.func179,Tryz.ntmps179
  go_upto_region 1 with fail
  simp only[HW.out]
  go_wp2_with (first
   |(go_at_call 173;refine zM HO ?_;rintro e w4 ⟨bb,rfl,hbb,hbx,hb⟩;have HB4:=zh hb;have HBX:=zh hbx;clear hb hbx)
   |(go_at_call 206;(with_reducible refine(begin_any a b t _ zO zO).mono ?_);rintro e w5 ⟨rfl,hb⟩;have HB5:=zh hb;clear hb;have HK:=zh (walk_plain c _ rfl h8 hlim pa pc bb w HP.out w5 l (beginD a b t) hll hls (beginD_le a b t) ((hB3.trans (HB4.out.mono hB3.size)).trans (HB5.out.mono (by have:=hB3.size;have:=HB4.out.size;omega))) (HBX.out.below' HB5.out) ra rc HBR.out hrc))
   |(go_at_call 204;refine zM HK ?_;rintro e w6 ⟨rfl,hb⟩;have HB6:=zh hb;clear hb))
  go_ret2
  refine⟨?_,by rw[HZ.out];rfl⟩;have q1:=hB3.trans (HB4.out.mono hB3.size);have q2:=q1.trans (HB5.out.mono q1.size);exact q2.trans (HB6.out.mono q2.size)
 ·have hoo:=opened_bad ho hz;have HO:=zh hoo;have HZ:=zh hz;have hzz:(openErr c [x,y] != 0)=true:=by simpa using hz
  clear ho hoo hz
  go_enter Tryz.func179,Tryz.ntmps179
  go_upto_region 1 with fail
  simp only[HW.out]
  go_wp2_with (go_at_call 173;refine zM HO ?_;rintro e w' ⟨rfl,hb⟩)
  go_ret2
  exact⟨hB3.trans (hb.mono hB3.size),by rw[show(openErr c [x,y]==0)=false by simpa using HZ.out];rfl⟩
theorem checkNone_any (c:Cs)(hsm:c.Small)(pa:Option Addr)(pc:Nat)(l:List Br)(hll:l.length≤1000000)(hls:∀z∈l,z.Small)(ra:Option Addr)(rc:Nat)(w:World)(hp:PartsAt w pa c.parts)(hbr:BrsAt w ra l)(hrc:l.length≤rc):
 Calls Tryz.prog 178 #[.agg #[.string c.ware,.int .i64 c.limit,.int .i64 c.by_,.slice pa c.parts.length pc],.slice ra l.length rc] w
  (BoolPost (openErr c []) (openErr c []==0&&(refutedB c c.parts.length (fun _ _=>0) l).isSome) w):=by
 obtain⟨w2,hw2⟩:=zx (w.alloc (.cells #[.string c.ware,.int .i64 c.limit,.int .i64 c.by_,.slice pa c.parts.length pc] 24));have hB2:Below w.heap.size w w2:=by rw[←hw2];go_grown
 have e0:∀i,w2.cell? ⟨w.heap.size,i,none⟩=(#[.string c.ware,.int .i64 c.limit,.int .i64 c.by_,.slice pa c.parts.length pc]:Array Value)[i]?:=by rw[←hw2];exact(Box.new _ _ _).cell
 have ho:=opened_any c hsm pa pc [] none 0 w2 (hp.below hB2) (Ints.nil _ _) zS;simp only[List.length_nil] at ho;have HP:=zh hp;have HW:=zh hw2;have HBR:=zh hbr;clear hp hw2 hbr
 by_cases hz:openErr c []=0
 ·have hoo:=opened_good ho hz;have h8:=check_small hz;have hlim:=check_lim (open_check hz);have HO:=zh hoo;have HZ:=zh hz;clear ho hoo hz
  go_enter Tryz.func178,Tryz.ntmps178
  go_upto_region 1 with fail
  simp only[HW.out]
  go_wp2_with (first
   |(go_at_call 173;refine zM HO ?_;rintro e w4 ⟨bb,rfl,hbb,hbx,hb⟩;have HB4:=zh hb;have HBX:=zh hbx;have HK:=zh (walk_plain c _ rfl h8 hlim pa pc bb w HP.out w4 l (fun _ _=>0) hll hls zS (hB2.trans (hb.mono hB2.size)) hbx ra rc HBR.out hrc);clear hb hbx)
   |(go_at_call 204;simp only[zero_dec];refine zM HK ?_;rintro e w6 ⟨rfl,hb⟩;have HB6:=zh hb;clear hb))
  go_ret2
  refine⟨?_,by rw[HZ.out];rfl⟩;have q1:=hB2.trans (HB4.out.mono hB2.size);exact q1.trans (HB6.out.mono q1.size)
 ·have hoo:=opened_bad ho hz;have HO:=zh hoo;have HZ:=zh hz;have hzz:(openErr c [] != 0)=true:=by simpa using hz
  clear ho hoo hz
  go_enter Tryz.func178,Tryz.ntmps178
  go_upto_region 1 with fail
  simp only[HW.out]
  go_wp2_with (go_at_call 173;refine zM HO ?_;rintro e w' ⟨rfl,hb⟩)
  go_ret2
  exact⟨hB2.trans (hb.mono hB2.size),by rw[show(openErr c []==0)=false by simpa using HZ.out];rfl⟩
end
