/- Walks and plain laws. No condition. -/
import Derived.Deep.DeepCutAuto
import Derived.Deep.RegionHeld3
import Derived.Test.YtjgldeeianionaaGreatRows
import Derived.Lib.SmallJoins
import Derived.Test.YtjgldeeianionaaGreatV01
set_option maxHeartbeats 2000000
set_option maxRecDepth 100000
set_option linter.unusedSimpArgs false
set_option linter.unusedVariables false
namespace Go.Proofs.YtjgldeeianionaaGreat
open Go.RowKit
section
open Go.RowKit Go.Maps
abbrev yes:DataW Unit:=.lit (.bool true)
def litsOf (l:List Int):List Lit:=l.map (Lit.int .i64)
def SeenAt (w:World)(b:Nat)(l:List Int):Prop:=
 (∀x∈l,1≤x∧x≤1000000)∧w.ownsMap Tryz.prog 3 (plainElem (H:=Unit) Tryz.prog 4) b l.length (setOf yes (litsOf l))
theorem id_wf {x:Int}(h:1≤x∧x≤1000000):(Lit.int .i64 x).wf=true:=by
 simp[Lit.wf,IntKind.min,IntKind.max,IntKind.signed,IntKind.bits];omega
theorem atKey_fold (l:List Int)(x:Int)(z:DataW Unit):∀m:DataW Unit,IsMap m →
 ((litsOf l).foldl (fun m x=>m.put x yes) m).atKey (.int .i64 x) z=if l.contains x then yes else m.atKey (.int .i64 x) z:=by
 induction l with
 |nil=>intro m _;simp[litsOf]
 |cons y l ih=>
  intro m hm;have h1:=ih (m.put (.int .i64 y) yes) (hm.put _ _);simp only[litsOf,List.map_cons,List.foldl_cons] at h1 ⊢;rw[h1]
  by_cases e:y=x
  ·subst e;rw[atKey_put_same hm (show WideAt.IsKeyLit (Lit.int .i64 y) from trivial)]
   simp
  ·rw[atKey_put_other (fun h=>e (by injection h with _ h;exact h.symm))];have e':¬x=y:=fun h=>e h.symm
   simp[e']
theorem atKey_setOf (l:List Int)(x:Int)(z:DataW Unit):(setOf yes (litsOf l)).atKey (.int .i64 x) z=if l.contains x then yes else z:=by
 rw[setOf,atKey_fold l x z _ isMap_empty]
 split
 ·rfl
 ·rfl
theorem SeenAt.look {w:World}{b:Nat}{l:List Int}(h:SeenAt w b l){x:Int}(hx:1≤x∧x≤1000000):
 (Instr.lookup 166 (.map (some b)) (.int .i64 x) false).run Tryz.prog w = .ok (.bool (l.contains x)) w:=by
 obtain⟨v,ps,hrun,hv⟩:=h.2.lookup (int_keyed Tryz.underlying3) Tryz.underlying166 (by kernel_rfl:(zeroValue 4).run Tryz.prog w = .ok (.bool false) w)
  (plainElem_bool Tryz.underlying4 false) (keyOf_int_mk Tryz.underlying3 (id_wf hx))
 rw[atKey_setOf] at hv;rw[hrun];have e:∀(d:Bool),plainElem (H:=Unit) Tryz.prog 4 v=some (.lit (.bool d),ps)→v = .bool d:=by
  intro d hd;simp only[plainElem,Tryz.underlying4] at hd;cases v with
  |bool c=>simp at hd;rw[hd.1]
  |_=>simp at hd
 cases hc:l.contains x
 ·rw[hc] at hv;rw[e false (by simpa using hv)]
 ·rw[hc] at hv;rw[e true (by simpa using hv)]
theorem SeenAt.put {w:World}{b:Nat}{l:List Int}(h:SeenAt w b l){x:Int}(hx:1≤x∧x≤1000000)(hl:l.length≤100000):
 ∃w',(Instr.mapUpdate 166 (.map (some b)) (.int .i64 x) (.bool true)).run Tryz.prog w = .ok () w'∧SeenAt w' b (l++[x])∧w.grownBy w' (some b):=by
 obtain⟨w',hrun,hown,hg⟩:=h.2.update (int_keyed Tryz.underlying3) Tryz.underlying166 (by unfold maxLen;omega) (keyOf_int_mk Tryz.underlying3 (id_wf hx)) (plainElem_bool Tryz.underlying4 true);refine⟨w',hrun,⟨?_,?_⟩,hg⟩
 ·intro y hy;simp at hy
  rcases hy with hy|rfl
  ·exact h.1 y hy
  ·exact hx
 ·have e:litsOf (l++[x])=litsOf l++[.int .i64 x]:=by simp[litsOf]
  rw[e,setOf_snoc]
  simpa using hown
theorem SeenAt.made (w:World):SeenAt (w.alloc (.map #[] 0)) w.heap.size []:=⟨by simp,World.ownsMap_made _ _ _ _⟩
theorem SeenAt.below {w w':World}{b:Nat}{l:List Int}(h:SeenAt w b l)(hb:Below w.heap.size w w'):SeenAt w' b l:=by
 refine⟨h.1,?_⟩;obtain⟨es,clock,h1,h2⟩:=h.2;have hlt:b<w.heap.size:=by
  rcases Nat.lt_or_ge b w.heap.size with h0|h0
  ·exact h0
  ·rw[Array.getElem?_eq_none h0] at h1;cases h1
 exact⟨es,clock,(hb.block b hlt).trans h1,h2⟩
end
def csCells (c:Cs)(pa:Option Addr)(pc:Nat):Array Value:=#[.string c.ware,.int .i64 c.limit,.int .i64 c.by_,.slice pa c.parts.length pc]
abbrev cC (W:World)(g:Nat)(c:Cs)(pa:Option Addr)(pc:Nat):Prop:=∀j,W.cell? ⟨g,j,none⟩=(#[.string c.ware,.int .i64 c.limit,.int .i64 c.by_,.slice pa c.parts.length pc]:Array Value)[j]?
theorem zC {W:World}{g:Nat}{c:Cs}{pa:Option Addr}{pc:Nat}{T:TypeId}(h:Box W g (csCells c pa pc) T):∀i,W.cell? ⟨g,i,none⟩=(#[.string c.ware,.int .i64 c.limit,.int .i64 c.by_,.slice pa c.parts.length pc]:Array Value)[i]?:=h.cell
def CcInv (c:Cs)(pa:Option Addr)(pc:Nat)(w:World)(seen:List Int)(wr:World):Prop:=
 Box wr w.heap.size (csCells c pa pc) 24∧SeenAt wr (w.heap.size+1) seen∧Below w.heap.size w wr
theorem CcInv.old {c:Cs}{pa:Option Addr}{pc:Nat}{w:World}{seen:List Int}{wr:World}(h:CcInv c pa pc w seen wr):Below w.heap.size w wr:=h.2.2
theorem CcInv.below {c:Cs}{pa:Option Addr}{pc:Nat}{w:World}{seen:List Int}{wr w':World}(h:CcInv c pa pc w seen wr)(hb:Below wr.heap.size wr w'):CcInv c pa pc w seen w':=
 ⟨h.1.below' hb,h.2.1.below hb,h.2.2.trans (hb.mono h.2.2.size)⟩
theorem CcInv.cells {c:Cs}{pa:Option Addr}{pc:Nat}{w:World}{seen:List Int}{wr:World}(h:CcInv c pa pc w seen wr):∀i,wr.cell? ⟨w.heap.size,i,none⟩=(#[.string c.ware,.int .i64 c.limit,.int .i64 c.by_,.slice pa c.parts.length pc]:Array Value)[i]?:=h.1.cell
theorem CcInv.put {c:Cs}{pa:Option Addr}{pc:Nat}{w:World}{seen:List Int}{wr:World}(h:CcInv c pa pc w seen wr){x:Int}(hx:1≤x∧x≤1000000)(hl:seen.length≤100000):
 ∃w',(Instr.mapUpdate 166 (.map (some (w.heap.size+1))) (.int .i64 x) (.bool true)).run Tryz.prog wr = .ok () w'∧CcInv c pa pc w (seen++[x]) w'∧(∀b,b<w.heap.size→∀i,w'.cell? ⟨b,i,none⟩=w.cell? ⟨b,i,none⟩):=by
 obtain⟨w',h1,h2,h3⟩:=h.2.1.put hx hl;have hlt:=h.1.lt;have hb:Below w.heap.size w w':=h.2.2.grown h3 h.2.2.size (fun k e=>by cases e;omega);exact⟨w',h1,⟨h.1.grown h3 zS,h2,hb⟩,fun b hbl i=>hb.cell (p:=⟨b,i,none⟩) hbl⟩
theorem checkCase_any (c:Cs)(hsm:c.Small)(pa:Option Addr)(pc:Nat)(w:World)(hp:PartsAt w pa c.parts):
 Calls Tryz.prog 139 #[.agg #[.string c.ware,.int .i64 c.limit,.int .i64 c.by_,.slice pa c.parts.length pc]] w fun e w'=>e = .returned (.int .i64 (checkCase c))∧Below w.heap.size w w':=by
 obtain⟨hs1,hs2,hs3⟩:=hsm
 by_cases h8:8<c.parts.length
 ·go_enter Tryz.func139,Tryz.ntmps139
  go_wp2_with fail
  go_ret
  exact⟨ret_int (by simp[checkCase,h8]),by go_grown⟩
 ·have HP:=zh hp;have H3:=zh hs3;clear hp hs3;have hmm:=@run_makeMap Tryz.prog
  go_enter Tryz.func139,Tryz.ntmps139
  go_upto_region 4 with fail
  go_cut [4] (fun s4 wx=>s4 = .bool (ok0 c)∧CcInv c pa pc w [] wx)
  case first=>
   go_wp2_with (first
    |(go_at_call 187;(with_reducible refine(isName_any _ _ zO).mono ?_);rintro e w1 ⟨rfl,hb1⟩;have HB1:=zh (((Box.new w #[.string c.ware,.int .i64 c.limit,.int .i64 c.by_,.slice pa c.parts.length pc] 24).alloc (.map #[] 0)).below' hb1);obtain⟨hc1,hf1⟩:=HB1.out.rules;have HW1:=zh hb1;clear hb1)
    |(go_at_call 188;(with_reducible refine(in_any _ _ _ _).mono ?_);rintro e w' ⟨rfl,rfl⟩)
    |(go_at_call 189;(with_reducible refine(by_any _ _ _).mono ?_);rintro e w' ⟨rfl,rfl⟩))
   all_goals go_meet
   all_goals (refine⟨by simp[ok0, *],HB1.out,?_,?_⟩)
   all_goals first
    |(have h1:=SeenAt.made (w.alloc (.cells (csCells c pa pc) 24));rw[World.size_alloc] at h1;exact h1.below HW1.out)
    |exact(((Below.refl _ w).alloc (Nat.le_refl _) _).alloc zS _).trans (HW1.out.mono zT)
  case rest=>
   obtain⟨rfl,hinv⟩:=hcut;have HI:=zh hinv;have hcc:=hinv.cells;clear hinv
   go_wp2
   go_loopw [4,33] (fun s4 i wr=>∃(k:Nat) (ok:Bool),k≤c.parts.length∧i = .int .i64 k∧s4 = .bool ok∧Hid (ok=(ok0 c&&noDup (allIds (c.parts.take k))))∧Hid (∀(j:Nat) p,j<k→c.parts[j]?=some p→isPartB p=true)∧CcInv c pa pc w (allIds (c.parts.take k)) wr)
    (fun _ i _=>c.parts.length-(intOf i).toNat)
   case atStart=>exact⟨0,ok0 c,Nat.zero_le _,rfl,rfl,zh (by simp[noDup,allIds]),fun j p hj=>absurd hj (Nat.not_lt_zero j),HI.out⟩
   case round=>
    clear HI hcc;obtain⟨k,ok,hk,rfl,rfl,HO,HA,hinv⟩:=hrel;have HI:=zh hinv;clear hinv
    by_cases hlt:k<c.parts.length
    ·obtain⟨b,o,p,rfl,hpk,hpart⟩:=HP.out.at_ hlt;obtain⟨sa,sc,ra,rc,c0,c1,c2,c3,c4,c5,c6,c7,hsi,hri,hsc,hrc⟩:=hpart.open;have hB:=HI.out.2.2;have d0:=below_cell hB c0;have d1:=below_cell hB c1;have d2:=below_cell hB c2;have d3:=below_cell hB c3;have d4:=below_cell hB c4;have d5:=below_cell hB c5;have d6:=below_cell hB c6;have d7:=below_cell hB c7;have hlen:=H3.out p (List.mem_of_getElem? hpk);have HPK:=zh hpk;have HSI:=zh hsi;have HRI:=zh hri;clear c0 c1 c2 c3 c4 c5 c6 c7 hpart hpk hsi hri hB;cases ok
     ·go_wp2
      go_ret
      have hB:=HI.out.2.2;exact⟨ret_int (check_dup h8 HO.out.symm).symm,hB.alloc hB.size _⟩
     ·go_wp2_with (go_at_call 190;(with_reducible refine(isPart_any p sa ra sc rc _ ((HSI.out.below HI.out.old).below (by go_grown)) ((HRI.out.below HI.out.old).below (by go_grown)) zO zO).mono ?_);rintro e w2 ⟨rfl,hb2⟩;have HBx:=zh (Box.below' (PrtBox.new wr p sa sc ra rc 80) hb2:PrtBox w2 wr.heap.size p sa sc ra rc 80);have hx1:=PrtBox.cells HBx.out;have hx2:=Box.frozen HBx.out;have HI2:=zh (HI.out.below (((Below.refl _ wr).alloc (Nat.le_refl _) _).trans (hb2.mono zS)));clear hb2)
      ·have hbad:(!isPartB p)=true:=by assumption
       go_ret
       exact⟨ret_int (check_false h8 HPK.out (by simpa using hbad)).symm,HI2.out.old⟩
      ·have hgood:(!isPartB p)=false:=by assumption
       have HG:=zh hgood;clear hgood hx1 hx2
       go_loopw [4,47] (fun s4 i wq=>∃(m:Nat) (ok:Bool),m≤p.sherds.length∧i = .int .i64 m∧s4 = .bool ok∧Hid (ok=(ok0 c&&noDup (allIds (c.parts.take k)++p.sherds.take m)))∧CcInv c (some ⟨b,o,none⟩) pc w (allIds (c.parts.take k)++p.sherds.take m) wq)
        (fun _ i _=>p.sherds.length-(intOf i).toNat)
       case atStart=>exact⟨0,true,Nat.zero_le _,rfl,by rw[show isPartB p=true from by simpa using HG.out],zh (by rw[HO.out];simp),by simpa using HI2.out⟩
       case round=>
        clear HI2 HBx;obtain⟨m,ok,hm,rfl,rfl,HOq,hinvq⟩:=hrel
        by_cases hml:m<p.sherds.length
        ·obtain⟨b',o',x,rfl,hx,hcx⟩:=(HSI.out.below hinvq.old).at_ hml;have hxr:=part_ids (p:=p) (by simpa using HG.out) x (List.mem_of_getElem? hx);have hlk:=hinvq.2.1.look hxr;have hlen2:(allIds (c.parts.take k)++p.sherds.take m).length≤100000:=by
          have:=allIds_len 60 (c.parts.take k) (fun q hq=>(H3.out q (List.mem_of_mem_take hq)).1);have h2:=List.length_take_le k c.parts;have h3:=List.length_take_le m p.sherds;have h4:60*(c.parts.take k).length≤60*12:=Nat.mul_le_mul_left _ zO;rw[List.length_append];omega
         obtain⟨w',hput,hinv',_⟩:=hinvq.put hxr hlen2;have HQ:=zh hinv';have HX:=zh hx;have HR:=zh hxr;clear hinv' hinvq hx hxr hlen2;have HS:=zh (take_snoc HX.out);cases ok
         ·go_wp2
          go_roundw
          case rel=>exact⟨m+1,false,zO,zN,rfl,zh (by rw[HS.out,←List.append_assoc,noDup_snoc,←Bool.and_assoc,←HOq.out];rfl),by rw[HS.out,←List.append_assoc];exact HQ.out⟩
          case measure=>exact zJ
         ·go_wp2
          go_roundw
          case rel=>exact⟨m+1,_,zO,zN,rfl,zh (by rw[HS.out,←List.append_assoc,noDup_snoc,←Bool.and_assoc,←HOq.out];simp),by rw[HS.out,←List.append_assoc];exact HQ.out⟩
          case measure=>exact zJ
        ·have HQ:=zh hinvq;clear hinvq
         go_wp2
         go_roundw
         case rel=>
          have hmm:m=p.sherds.length:=by omega
          subst hmm;refine⟨k+1,ok,zO,zN,rfl,zh ?_,parts_step HPK.out (by simpa using HG.out) HA.out,?_⟩
          ·rw[take_snoc HPK.out,allIds_snoc,HOq.out,List.take_length]
          ·rw[take_snoc HPK.out,allIds_snoc];have:=HQ.out
           rwa [List.take_length] at this
         case measure=>exact zJ
    ·cases ok
     ·go_wp2
      go_ret
      exact⟨ret_int (check_dup h8 HO.out.symm).symm,HI.out.2.2⟩
     ·go_wp2
      go_ret
      exact⟨ret_int (check_ok h8 hlt HO.out HA.out).symm,HI.out.2.2⟩
theorem feet_any (bb n cap x y pb po:Nat)(fx fy:Bool)(w:World)(hb:w.cell? ⟨bb,3,none⟩=some (.slice (some ⟨pb,po,none⟩) n cap))(hx:x<n)(hy:y<n)
 (h1:w.cell? ⟨pb,po+x*8+5,none⟩=some (.bool fx)) (h2:w.cell? ⟨pb,po+y*8+5,none⟩=some (.bool fy)):
 Calls Tryz.prog 226 #[.pointer (some ⟨bb,0,none⟩),.int .i64 x,.int .i64 y] w fun e w'=>e = .returned (.bool (feetB fx fy))∧w=w':=by
 go_enter Tryz.func226,Tryz.ntmps226
 go_wp2
 all_goals (go_ret;exact⟨ret_bool (by simp_all [feetB]),rfl⟩)
theorem clash_any (c:Cs)(_hn:c.parts.length≤12)(bb x y:Nat)(pa:Option Addr)(pc:Nat)(w:World)(hb:Box w bb (csCells c pa pc) 219)(hpa:PartsAt w pa c.parts)(hx:x<c.parts.length)(hy:y<c.parts.length):
 Calls Tryz.prog 210 #[.pointer (some ⟨bb,0,none⟩),.int .i64 x,.int .i64 y] w fun e w'=>e = .returned (.bool (clashB c x y))∧Below w.heap.size w w':=by
 obtain⟨b,o,p,rfl,hp,hP⟩:=hpa.at_ hx;obtain⟨b',o',q,hb',hq,hQ⟩:=hpa.at_ hy;cases hb';have hlen:x<c.parts.length:=hx;obtain⟨sa,sc,ra,rc,c0,c1,c2,c3,c4,c5,c6,c7,x1,x2,x3,x4⟩:=hP.open;obtain⟨sa',sc',ra',rc',d0,d1,d2,d3,d4,d5,d6,d7,y1,y2,y3,y4⟩:=hQ.open;have hs:w.cell? ⟨bb,3,none⟩=some (.slice (some ⟨b,o,none⟩) c.parts.length pc):=by rw[hb.cell];rfl
 have hbl:=lt_of_cell hs;have hpl:=lt_of_cell c1;rw[clashB_eq hp hq];have HP:=zh hp;have HQ:=zh hq;clear hp hq hP hQ hpa hb c0 c6 c7 d0 d6 d7 x1 x2 x3 x4 y1 y2 y3 y4;generalize c.parts.length=n at *
 go_enter Tryz.func210,Tryz.ntmps210
 go_upto_region 1 with fail
 go_cut [7,8] (fun s7 s8 wx=>∃g1 g2:Nat,s7 = .pointer (some ⟨g1,0,none⟩)∧s8 = .pointer (some ⟨g2,0,none⟩)∧SpnBox wx g1 p.span 78∧SpnBox wx g2 q.span 78∧Below w.heap.size w wx)
 case first=>
  go_region_held3 (fun w'=>w'.cell? ⟨bb,3,none⟩=some (.slice (some ⟨b,o,none⟩) n pc)∧w'.cell? ⟨b,o+x*8+1,none⟩=some (.int .i64 p.span.low)∧w'.cell? ⟨b,o+x*8+2,none⟩=some (.int .i64 p.span.high)∧w'.cell? ⟨b,o+x*8+3,none⟩=some (.int .i64 p.span.lowBy)∧w'.cell? ⟨b,o+x*8+4,none⟩=some (.int .i64 p.span.highBy)∧w'.cell? ⟨b,o+y*8+1,none⟩=some (.int .i64 q.span.low)∧w'.cell? ⟨b,o+y*8+2,none⟩=some (.int .i64 q.span.high)∧w'.cell? ⟨b,o+y*8+3,none⟩=some (.int .i64 q.span.lowBy)∧w'.cell? ⟨b,o+y*8+4,none⟩=some (.int .i64 q.span.highBy)) (go_keep) (first|(fail))
  all_goals (go_wp2_with fail;go_meet)
  ·exact⟨w.heap.size,w.heap.size+1,rfl,rfl,((Box.new _ _ _).alloc _).drew,(Box.new' zS).drew,by go_grown⟩
  ·exact⟨w.heap.size+1,w.heap.size,rfl,rfl,(Box.new' zS).drew,((Box.new _ _ _).alloc _).drew,by go_grown⟩
 case rest=>
  obtain⟨g1,g2,rfl,rfl,hg1,hg2,hB⟩:=hcut;have e1:=hg1.cells;have e2:=hg2.cells;have e3:=below_cell hB hs;have e4:=below_cell hB c5;have e5:=below_cell hB d5;have HB:=zh hB;clear hg1 hg2 hB c1 c2 c3 c4 c5 d1 d2 d3 d4 d5 hs
  by_cases hxy:x=y
  ·subst hxy
   go_wp2_with fail
   go_ret
   exact⟨ret_bool (by simp[clashP]),HB.out⟩
  ·have HX:=zh hxy;clear hxy
   go_wp2_with (go_at_call 226;(with_reducible refine(feet_any bb n pc x y b o p.foot q.foot _ e3 hx hy e4 e5).mono ?_);rintro e w' ⟨rfl,rfl⟩)
   all_goals (go_ret;refine⟨ret_bool ?_,HB.out⟩;have hX:=HX.out;simp[clashP, *];first|omega|(rw[Bool.eq_iff_iff];simp;omega)|skip)
section
open Go.RowKit Go.ChangeShapes Go.WideShapes Go.Deep Go.Joins
section
variable {H:Type}{enc:TypeId×Value→H}{w:World}{base:Nat}{spare:Nat→Bool}{held:Bool}
theorem spot_none {a:Addr}{v:Value}(h:w.cell? a=some v):a=⟨a.block,a.off,none⟩:=by
 obtain⟨b,o,s⟩:=a;unfold World.cell? at h
 split at h
 ·rcases s with _|s
  ·rfl
  ·simp at h
 ·cases h
theorem add_plain (b o j:Nat):(⟨b,o,none⟩:Addr).add j=⟨b,o+j,none⟩:=by
 unfold Addr.add
 split
 ·rename_i h;subst h;rfl
 ·rfl
theorem int_one:Tryz.prog.cellsOf 3=1:=zK
theorem ints_of {fuel:Nat}{cs:List Value}{x:DataW H×List MemPlace}(h:DataW.trod enc Tryz.prog w base spare held fuel 26 cs=some x):
 ∃(a:Option Addr) (l:List Int) (cap:Nat),cs=[.slice a l.length cap]∧Ints w a l∧l.length≤cap∧cap≤maxLen:=by
 rcases open_slice1 Tryz.underlying26 int_one h with ⟨rfl,_⟩|⟨a,len,cap,m,n,V,D,Pl,rfl,_,hl,hm,hmm,_,hV⟩
 ·exact⟨none,[],0,rfl,Ints.nil _ _,Nat.le_refl _,Nat.zero_le _⟩
 ·have hlm:len≤m:=by rw[hmm];split<;>omega
  obtain⟨f,hf⟩:=choose_lt (α:=Int) (n:=len) (p:=fun i z=>w.cell? (a.add i)=some (.int .i64 z)) (fun i hi=>by
   obtain⟨h1,h2⟩:=hV i zO;obtain⟨z,hz,_,_⟩:=DataW.trod_int Tryz.underlying3 h2;rw[List.singleton_inj] at hz;exact⟨z,by rw[h1,hz]⟩)
  refine⟨some a,(List.range len).map f,cap,by simp,fun k v hv=>?_,by simpa using hl,hm⟩;have hk:k<len:=by
   have:=(List.getElem?_eq_some_iff.1 hv).1
   simpa using this
  have h0:=hf 0 zO;have ha:a=⟨a.block,a.off,none⟩:=spot_none (v:=.int .i64 (f 0)) (by simpa[Addr.add] using h0);have hk':=hf k hk;rw[ha,add_plain] at hk';refine⟨a.block,a.off,by rw[←ha],?_⟩;rw[hk'];rw[List.getElem?_map,List.getElem?_map,List.getElem?_range hk] at hv
  simpa using hv
theorem span_of {fuel:Nat}{cs:List Value}{x:DataW H×List MemPlace}(h:DataW.trod enc Tryz.prog w base spare held fuel 78 cs=some x):
 ∃s:Spn,cs=[.int .i64 s.low,.int .i64 s.high,.int .i64 s.lowBy,.int .i64 s.highBy]:=by
 obtain⟨xs,n,_,_,hlen,hxs,hf⟩:=DataW.trod_struct Tryz.underlying78 h;have hc:Tryz.prog.cellsOf 78=4:=zK;rw[hc] at hlen
 match cs,hlen,xs,hxs with
 |[c0,c1,c2,c3],_,[y0,y1,y2,y3],_=>
  have h0:=hf 0 _ rfl;have h1:=hf 1 _ rfl;have h2:=hf 2 _ rfl;have h3:=hf 3 _ rfl;simp only[List.getElem?_cons_zero,List.getElem?_cons_succ] at h0 h1 h2 h3;obtain⟨a0,e0,_,_⟩:=DataW.trod_int Tryz.underlying3 h0;obtain⟨a1,e1,_,_⟩:=DataW.trod_int Tryz.underlying3 h1;obtain⟨a2,e2,_,_⟩:=DataW.trod_int Tryz.underlying3 h2;obtain⟨a3,e3,_,_⟩:=DataW.trod_int Tryz.underlying3 h3;cases e0;cases e1;cases e2;cases e3;exact⟨⟨a0,a1,a2,a3⟩,rfl⟩
theorem part_of {fuel:Nat}{cs:List Value}{x:DataW H×List MemPlace}(h:DataW.trod enc Tryz.prog w base spare held fuel 80 cs=some x):
 ∃(p:Prt) (sa:Option Addr) (sc:Nat) (ra:Option Addr) (rc:Nat),cs=prtCells p sa sc ra rc∧Ints w sa p.sherds∧Ints w ra p.rests∧p.sherds.length≤sc∧p.rests.length≤rc∧sc≤maxLen∧rc≤maxLen:=by
 obtain⟨xs,n,_,_,hlen,hxs,hf⟩:=DataW.trod_struct Tryz.underlying80 h;have hc:Tryz.prog.cellsOf 80=8:=zK;rw[hc] at hlen
 match cs,hlen,xs,hxs with
 |[c0,c1,c2,c3,c4,c5,c6,c7],_,[y0,y1,y2,y3,y4],_=>
  have h0:=hf 0 _ rfl;have h1:=hf 1 _ rfl;have h2:=hf 2 _ rfl;have h3:=hf 3 _ rfl;have h4:=hf 4 _ rfl;simp only[List.getElem?_cons_zero,List.getElem?_cons_succ] at h0 h1 h2 h3 h4;obtain⟨sa,l,sc,e0,i0,l0,m0⟩:=ints_of h0;obtain⟨s,e1⟩:=span_of h1;obtain⟨b,e2,_⟩:=DataW.trod_bool Tryz.underlying4 h2;obtain⟨a3,e3,_,_⟩:=DataW.trod_int Tryz.underlying3 h3;obtain⟨ra,r,rc,e4,i4,l4,m4⟩:=ints_of h4;cases e0;cases e1;cases e2;cases e3;cases e4;exact⟨⟨l,s,b,a3,r⟩,sa,sc,ra,rc,rfl,i0,i4,l0,l4,m0,m4⟩
instance:Inhabited Prt:=⟨⟨[],⟨0,0,0,0⟩,false,0,[]⟩⟩
def Cs.Fit (c:Cs):Prop:=c.parts.length≤maxLen∧c.ware.size≤maxLen∧∀p∈c.parts,p.sherds.length≤maxLen∧p.rests.length≤maxLen
theorem parts_of {fuel:Nat}{cs:List Value}{x:DataW H×List MemPlace}(h:DataW.trod enc Tryz.prog w base spare held fuel 22 cs=some x):
 ∃(a:Option Addr) (l:List Prt) (cap:Nat),cs=[.slice a l.length cap]∧PartsAt w a l∧l.length≤cap∧cap≤maxLen∧∀p∈l,p.sherds.length≤maxLen∧p.rests.length≤maxLen:=by
 have hc:Tryz.prog.cellsOf 80=8:=zK
 rcases open_slice Tryz.underlying22 h with ⟨rfl,_⟩|⟨a,len,cap,m,n,D,Pl,rfl,_,hl,hm,hmm,_,hV⟩
 ·exact⟨none,[],0,rfl,fun k p hp=>by simp at hp,Nat.le_refl _,Nat.zero_le _,by simp⟩
 ·have hlm:len≤m:=by rw[hmm];split<;>omega
  rw[hc] at hV;obtain⟨f,hf⟩:=choose_lt (α:=Prt) (n:=len) (p:=fun i p=>∃sa sc ra rc,(∀j v,(prtCells p sa sc ra rc)[j]?=some v→w.cell? (a.add (i*8+j))=some v)∧Ints w sa p.sherds∧Ints w ra p.rests∧p.sherds.length≤sc∧p.rests.length≤rc∧sc≤maxLen∧rc≤maxLen) (fun i hi=>by
   obtain⟨cs',h1,h2⟩:=hV i zO;obtain⟨p,sa,sc,ra,rc,rfl,h3⟩:=part_of h2;obtain⟨_,_,hg⟩:=World.cells?_some h1;refine⟨p,sa,sc,ra,rc,fun j v hv=>?_,h3⟩;have hj:=(List.getElem?_eq_some_iff.1 hv).1;have:=hg j (by simpa[prtCells] using hj);rw[Go.Deep.add_add] at this;rw[this,hv])
  refine⟨some a,(List.range len).map f,cap,by simp,fun k p hp=>?_,by simpa using hl,hm,fun p hp=>?_⟩
  ·have hk:k<len:=by
    have:=(List.getElem?_eq_some_iff.1 hp).1
    simpa using this
   obtain⟨_,_,_,_,h0,_⟩:=hf 0 zO;have ha:a=⟨a.block,a.off,none⟩:=spot_none (by simpa[Addr.add] using h0 0 _ rfl);rw[List.getElem?_map,List.getElem?_range hk] at hp;have hp':f k=p:=by simpa using hp
   obtain⟨sa,sc,ra,rc,h1,h2,h3,h4,h5,_⟩:=hf k hk;rw[hp'] at h1 h2 h3 h4 h5;refine⟨a.block,a.off,by rw[←ha],sa,sc,ra,rc,fun j v hv=>?_,h2,h3,h4,h5⟩;have h6:=h1 j v hv;rw[ha,add_plain] at h6;rw[←h6,Nat.add_assoc]
  ·simp only[List.mem_map,List.mem_range] at hp;obtain⟨i,hi,rfl⟩:=hp;obtain⟨_,_,_,_,_,_,_,h4,h5,h6,h7⟩:=hf i hi;exact⟨Nat.le_trans h4 h6,Nat.le_trans h5 h7⟩
theorem case_of {r:Reach}{b0:Nat}{v:Value}{d:DataW H}{ps:List MemPlace}(hv:Value.okWide Tryz.prog w r b0 24 v)(h:DataW.Trod enc Tryz.prog w base spare held 24 v d ps):
 ∃(c:Cs) (pa:Option Addr) (pc:Nat),v = .agg #[.string c.ware,.int .i64 c.limit,.int .i64 c.by_,.slice pa c.parts.length pc]∧PartsAt w pa c.parts∧c.parts.length≤pc∧c.Fit∧(Lit.int .i64 c.limit).wf=true:=by
 obtain⟨v0,v1,v2,v3,y0,y1,y2,y3,n,rfl,_,_,h0,h1,h2,h3⟩:=open_agg4 Tryz.underlying24 zK zK hv h;obtain⟨s,e0,_,hs⟩:=DataW.trod_string Tryz.underlying9 h0;obtain⟨a1,e1,_,w1⟩:=DataW.trod_int Tryz.underlying3 h1;obtain⟨a2,e2,_,_⟩:=DataW.trod_int Tryz.underlying3 h2;obtain⟨pa,l,pc,e3,hp,hl,hm,hfit⟩:=parts_of h3;cases e0;cases e1;cases e2;cases e3;exact⟨⟨s,a1,a2,l⟩,pa,pc,rfl,hp,hl,⟨Nat.le_trans hl hm,hs,hfit⟩,w1⟩
open Go.WideElems in
theorem all_stays (hl:laidOutB Tryz.prog=true){W W':World}{sp':Nat→Bool}:∀{ts:List TypeId} {vs:List Value} {ds:List (DataW H)} {ps:List MemPlace},
 (∀t∈ts,Tryz.prog.readableRec t=true∧t<Tryz.prog.types.size)→DataW.TrodAll enc Tryz.prog W base (fun _=>true) true ts vs ds ps→(∀p∈ps,W.sameAt W' p)→(∀p∈ps,sp' p.block=true) →
 DataW.TrodAll enc Tryz.prog W' base sp' true ts vs ds ps
 |[],vs,ds,ps,_,h,_,_=>by
  obtain⟨rfl,rfl,rfl⟩:=trodAll_nil h;exact trodAll_mk0
 |t::ts,vs,ds,ps,ht,h,h1,h2=>by
  obtain⟨v,vs',d,ds',p,p',rfl,rfl,rfl,ha,hr⟩:=trodAll_cons h;have hr':=all_stays hl (sp':=sp') (fun t ht'=>ht t (List.mem_cons_of_mem _ ht')) hr (fun q hq=>h1 q (List.mem_append_right _ hq)) (fun q hq=>h2 q (List.mem_append_right _ hq));have ha':=Trod_stays hl (ht t List.mem_cons_self).1 (ht t List.mem_cons_self).2 ha (fun q hq=>h1 q (List.mem_append_left _ hq)) (fun q hq=>h2 q (List.mem_append_left _ hq));exact trodAll_cons_mk ha' hr'
theorem laid_out:laidOutB Tryz.prog=true:=zK
theorem law_post {f:Func}{s:ChangeSpec}{W W':World}{args:Array Value}{ds gs:List (DataW H)}{before:List MemPlace}(hf:f.resultTypes = #[4])(hv:s.vars=[])
 (hts:∀t∈f.params.toList,Tryz.prog.readableRec t=true∧t<Tryz.prog.types.size)
 (hW:DataW.Whole enc Tryz.prog f.params.toList s.vars false W args.toList ds gs before) (hr:(s.fn H (ds++gs)).results=[.lit (.bool true)]) (ha:(s.fn H (ds++gs)).args=ds) (hg:(s.fn H (ds++gs)).vars=[]) (hb:Below W.heap.size W W'):
 s.post enc Tryz.prog f false true false false W args (.bool true) W':=by
 have hW':=hW;have hlt:∀p∈before,p.block<W.heap.size:=fun p hp=>hW.lt p hp
 obtain⟨p,q,hA,hV,rfl,_,_⟩:=hW;rw[hv] at hV;obtain⟨rfl,rfl⟩:=trodVars_none hV;rw[List.append_nil] at hlt;refine⟨ds,[],p++[],[],p,[],hW',?_,?_,?_,hb.frame _,fun h=>by cases h⟩
 ·rw[hr,hf];exact trodAll_mk1 (shut_bool Tryz.underlying4 true)
 ·rw[ha];exact all_stays laid_out hts hA (fun r hr=>hb.same (hlt r hr)) (fun r hr=>by simpa using hlt r hr)
 ·rw[hg,hv];exact rfl
end
end
