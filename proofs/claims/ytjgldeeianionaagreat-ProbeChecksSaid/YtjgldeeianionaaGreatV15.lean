/- Walks and plain laws. No condition. -/
import Derived.Test.YtjgldeeianionaaGreatV14
set_option maxHeartbeats 2000000
set_option maxRecDepth 100000
set_option linter.unusedSimpArgs false
set_option linter.unusedVariables false
namespace Go.Proofs.YtjgldeeianionaaGreat
open Go.RowKit
section
attribute [local go_sem] Oper.semAt_some
theorem take_allIds {c:Cs}{k m:Nat}{p:Prt}{x:Int}(hp:c.parts[k]?=some p)(hx:p.sherds[m]?=some x)(h:noDup (allIds (c.parts.take k)++p.sherds.take m)=true)(hc:(allIds (c.parts.take k)++p.sherds.take m).contains x=true):noDup (allIds (c.parts.take (k+1)))=false:=by
 rw[Bool.eq_false_iff];intro hh;rw[take_snoc hp,allIds_snoc,←List.take_append_drop (m+1) p.sherds,←List.append_assoc] at hh;have h1:=noDup_app hh;rw[take_snoc hx,←List.append_assoc,noDup_snoc,hc] at h1;simp at h1
theorem next_noDup {c:Cs}{k m:Nat}{p:Prt}{x:Int}(hx:p.sherds[m]?=some x)(h:noDup (allIds (c.parts.take k)++p.sherds.take m)=true)(hc:(allIds (c.parts.take k)++p.sherds.take m).contains x=false):noDup (allIds (c.parts.take k)++p.sherds.take (m+1))=true:=by
 rw[take_snoc hx,←List.append_assoc,noDup_snoc,h,hc];rfl
def CrAll (w:World)(l:List Int)(av:Value)(wr:World):Prop:=wr.ownsRow (w.heap.size+1) 3 1 av l.length (l.map (Value.int .i64))
theorem checkCase_ref (c:Cs)(hsm:c.Small)(pa:Option Addr)(pc:Nat)(w:World)(hp:PartsAt w pa c.parts):
 Calls Tryz.prog 143 #[.agg #[.string c.ware,.int .i64 c.limit,.int .i64 c.by_,.slice pa c.parts.length pc]] w fun e w'=>e = .returned (.int .i64 (checkCase c))∧Below w.heap.size w w':=by
 obtain⟨hs1,hs2,hs3⟩:=hsm
 by_cases h8:8<c.parts.length
 ·go_enter Tryz.func143,Tryz.ntmps143
  go_wp2_with fail
  go_ret
  exact⟨ret_int (by simp[checkCase,h8]),by go_grown⟩
 ·obtain⟨w1,hw1⟩:=zx (w.alloc (.cells #[.string c.ware,.int .i64 c.limit,.int .i64 c.by_,.slice pa c.parts.length pc] 24));have hB1:Below w.heap.size w w1:=by rw[←hw1];go_grown
  have b1:Box w1 w.heap.size (csCells c pa pc) 24:=by rw[←hw1];exact Box.new _ _ _
  have e1:=zC (b1);have HP:=zh hp;have H3:=zh hs3;have HW:=zh hw1;have HB1:=zh hB1;have HX1:=zh b1;have HN:=zh (name_ref c.ware w1 zO);clear hp hs3 hw1 b1 hB1
  rcases hok:ok0 c with _|_
  ·have HF:=zh (show checkCase c=1 by simp[checkCase,h8,okCase,hok]);have HOK:=zh hok;clear hok
   go_enter Tryz.func143,Tryz.ntmps143
   go_upto_region 1 with fail
   simp only[HW.out]
   go_upto_region 4 with (go_at_call 191;refine zM HN ?_;rintro e w2 ⟨rfl,hb2⟩;have e2:∀i,w2.cell? ⟨w.heap.size,i,none⟩=(#[.string c.ware,.int .i64 c.limit,.int .i64 c.by_,.slice pa c.parts.length pc]:Array Value)[i]?:=(HX1.out.below' hb2).cell;have HB2:=zh hb2;clear hb2)
   clear e1;have hB:=HB1.out.trans (HB2.out.mono HB1.out.size);have HB:=zh hB;clear hB
   rcases hn:isNameB c.ware with _|_
   ·go_wp2_with (go_at_call 192;(with_reducible refine(within_any _ _ _ _).mono ?_);rintro e w' ⟨rfl,rfl⟩)
    go_ret
    exact⟨ret_int HF.out.symm,HB.out⟩
   ·rcases hl:inB c.limit 0 40 with _|_
    ·go_wp2_with (go_at_call 192;(with_reducible refine(within_any _ _ _ _).mono ?_);rintro e w' ⟨rfl,rfl⟩)
     go_ret
     exact⟨ret_int HF.out.symm,HB.out⟩
    ·rcases hb:inB c.by_ 0 1000000 with _|_
     ·go_wp2_with (go_at_call 192;(with_reducible refine(within_any _ _ _ _).mono ?_);rintro e w' ⟨rfl,rfl⟩)
      go_ret
      exact⟨ret_int HF.out.symm,HB.out⟩
     ·have hh:c.limit=0∧c.by_≠0:=by
       have h1:=HOK.out;have h2:=hl
       simp[ok0,hn,hl,byB,hb] at h1
       simp[inB] at h2
       omega
      have hz:(c.limit==0)=true:=by simp[hh.1]
      have hy:(c.by_ != 0)=true:=by simp[hh.2]
      clear hh
      go_wp2_with (go_at_call 192;(with_reducible refine(within_any _ _ _ _).mono ?_);rintro e w' ⟨rfl,rfl⟩)
      go_ret
      exact⟨ret_int HF.out.symm,HB.out⟩
  ·have HOK:=zh hok;have hn:isNameB c.ware=true:=by simp[ok0] at hok;exact hok.1.1
   have hl:inB c.limit 0 40=true:=by simp[ok0] at hok;exact hok.1.2
   have hb:inB c.by_ 0 1000000=true:=by simp[ok0,byB] at hok;exact hok.2.1
   have hlb:0<c.limit∨c.by_=0:=by simp[ok0,byB] at hok;exact hok.2.2
   have HLB:=zh hlb;clear hok hlb
   rcases hz:(c.limit==0) with _|_
   ·skip
    go_enter Tryz.func143,Tryz.ntmps143
    go_upto_region 1 with fail
    simp only[HW.out]
    go_upto_region 4 with (go_at_call 191;refine zM HN ?_;rintro e w2 ⟨rfl,hb2⟩;have e2:∀i,w2.cell? ⟨w.heap.size,i,none⟩=(#[.string c.ware,.int .i64 c.limit,.int .i64 c.by_,.slice pa c.parts.length pc]:Array Value)[i]?:=(HX1.out.below' hb2).cell;have HB2:=zh hb2;clear hb2)
    clear e1;have hB:=HB1.out.trans (HB2.out.mono HB1.out.size);have HB:=zh hB;clear hB
    go_wp2_with (go_at_call 192;(with_reducible refine(within_any _ _ _ _).mono ?_);rintro e w' ⟨rfl,rfl⟩)
    have HX2:=zh (HX1.out.below' HB2.out);clear e2
    go_loopw [4,5] (fun av iv wr=>∃k:Nat,k≤c.parts.length∧iv = .int .i64 k∧Hid (noDup (allIds (c.parts.take k))=true)∧Hid (∀(j:Nat) p,j<k→c.parts[j]?=some p→isPartB p=true)∧CrAll w (allIds (c.parts.take k)) av wr∧Box wr w.heap.size (csCells c pa pc) 24∧Below w.heap.size w wr) (fun _ iv _=>c.parts.length-(intOf iv).toNat)
    case atStart=>exact⟨0,Nat.zero_le _,rfl,zh (by simp[noDup,allIds]),zh (fun j p hj=>absurd hj (Nat.not_lt_zero j)),ownsRow_nil _ _ _ _,HX2.out,HB.out⟩
    case round=>
     obtain⟨k,hk,rfl,HND,HPT,hall,hbx,hbw⟩:=hrel;have e2:=zC (hbx);have HALL:=zh hall;have HBX:=zh hbx;have HBW:=zh hbw;clear hall hbx hbw
     by_cases hlt:k<c.parts.length
     ·obtain⟨b,o,p,hpa,hpk,hP⟩:=HP.out.at_ hlt;subst hpa;have hsz3:=H3.out p (List.mem_of_getElem? hpk);obtain⟨sa,sc,ra,rc,q0,q1,q2,q3,q4,q5,q6,q7,hi1,hi2,hc1,hc2⟩:=hP.open;have p0:=below_cell HBW.out q0;have p1:=below_cell HBW.out q1;have p2:=below_cell HBW.out q2;have p3:=below_cell HBW.out q3;have p4:=below_cell HBW.out q4;have p5:=below_cell HBW.out q5;have p6:=below_cell HBW.out q6;have p7:=below_cell HBW.out q7;have HQ0:=zh q0;have hkn:(k:Int)<(c.parts.length:Int):=by omega
      have HPR:=zh (part_ref p sa ra sc rc wr (hi1.below HBW.out) (hi2.below HBW.out) zO zO);have HPK:=zh hpk;have HI1:=zh hi1;have hal:(allIds (c.parts.take k)).length≤720:=by
       have h1:=allIds_len 60 (c.parts.take k) (fun q hq=>(H3.out q (List.mem_of_mem_take hq)).1);have h2:(c.parts.take k).length≤12:=by rw[List.length_take];omega
       have h3:=Nat.mul_le_mul_left 60 h2
       omega
      clear hP hpk hi1 hi2 q0 q1 q2 q3 q4 q5 q6 q7
      rcases hpb:isPartB p with _|_
      ·have HF:=zh (check_false h8 HPK.out hpb)
       go_wp2_with (go_at_call 193;refine zM HPR ?_;rintro e w3 ⟨rfl,hb3⟩;have HB3:=zh hb3;clear hb3)
       go_ret
       exact⟨ret_int HF.out.symm,HBW.out.trans (HB3.out.mono HBW.out.size)⟩
      ·have HPB:=zh hpb
       go_wp2_with (go_at_call 193;refine zM HPR ?_;rintro e w3 ⟨rfl,hb3⟩;have HB3:=zh hb3;clear hb3)
       clear p0 p1 p2 p3 p4 p5 p6 p7 e2;have HA3:=zh (ownsRow_keep HALL.out (Keep.of_below' (K:=fun _=>True) HB3.out) (fun _ _=>trivial));have HX3:=zh (HBX.out.below' HB3.out);have HW3:=zh (HBW.out.trans (HB3.out.mono HBW.out.size));clear HALL HBX HBW HPR
       go_loopw [4,7] (fun av kv wx=>∃m:Nat,m≤p.sherds.length∧kv = .int .i64 m∧Hid (noDup (allIds (c.parts.take k)++p.sherds.take m)=true)∧CrAll w (allIds (c.parts.take k)++p.sherds.take m) av wx∧Box wx w.heap.size (csCells c (some ⟨b,o,none⟩) pc) 24∧Below w.heap.size w wx) (fun _ kv _=>p.sherds.length-(intOf kv).toNat)
       case atStart=>exact⟨0,Nat.zero_le _,rfl,zh (by rw[List.take_zero,List.append_nil];exact HND.out),(by rw[List.take_zero,List.append_nil];exact HA3.out),HX3.out,HW3.out⟩
       case round=>
        clear HA3 HX3 HW3;obtain⟨m,hm,rfl,HNDM,hall,hbx,hbw⟩:=hrel;have e2:∀i,wr.cell? ⟨w.heap.size,i,none⟩=(#[.string c.ware,.int .i64 c.limit,.int .i64 c.by_,.slice (some ⟨b,o,none⟩) c.parts.length pc]:Array Value)[i]?:=hbx.cell;have p0:=below_cell hbw HQ0.out;obtain⟨L,hL⟩:=zx (allIds (c.parts.take k)++p.sherds.take m);rw[hL] at hall;have hLl:L.length≤1000:=by rw[←hL,List.length_append,List.length_take];omega
        have HLL:=zh hL;have HALL:=zh hall;have HBX:=zh hbx;have HBW:=zh hbw;clear hall hbx hbw hL
        by_cases hml:m<p.sherds.length
        ·obtain⟨x,hx⟩:=get_of_lt p.sherds hml;obtain⟨b2,o2,hsa,hcell⟩:=(HI1.out.below HBW.out).base zO;subst hsa;have c1:=hcell m x hx;have hmn:(m:Int)<(p.sherds.length:Int):=by omega
         obtain⟨a5,c5,hav,hro,hcap⟩:=ownsRow_own HALL.out;have hhas:=has_any a5 c5 L x wr hro.row zO;have HX:=zh hx;subst hav;clear hcell hx hro
         rcases hcon:L.contains x with _|_
         ·rw[hcon] at hhas;have HHA:=zh hhas;have HCO:=zh hcon;obtain⟨v',U,hrun,hown,hg,_⟩:=run_append_row (P:=Tryz.prog) (wr.alloc (.cells #[.int .i64 x] 3)) (w.heap.size+1) 26 26 3 (.int .i64 0) 1 8 Tryz.underlying26 info_int rfl zO
           _ _ _ (ownsRow_keep HALL.out ((Keep.refl (fun _=>True) wr).alloc (.cells #[.int .i64 x] 3)) (fun _ _=>trivial)) (some ⟨wr.heap.size,0,none⟩) 1 1 [.int .i64 x] rfl (fun j u hu=>⟨wr.heap.size,0,rfl,by rw[(Box.new wr _ _).cell,Nat.zero_add];simpa using hu⟩) (by simp[Value.oneCell']) zO zO (by have:=HBX.out.lt;simp;omega)
          have hbU:Below w.heap.size w U:=(HBW.out.alloc HBW.out.size (.cells #[.int .i64 x] 3)).grown hg (by have:=HBX.out.lt;simp;omega) (fun j hj=>by have:=(HALL.out.lt j hj).1;omega);have hxU:Box U w.heap.size (csCells c (some ⟨b,o,none⟩) pc) 24:=(HBX.out.alloc _).grown hg (fun he=>by have:=(HALL.out.lt _ he.symm).1;omega);have HRN:=zh hrun;have HOW:=zh hown;have HBU:=zh hbU;have HXU:=zh hxU;clear hcon hhas hrun hown hg hbU hxU
          go_wp2_with (first
           |(go_at_call 194;refine zM HHA ?_;rintro e w' ⟨rfl,rfl⟩)
           |(at_builtin;refine wpList_app rfl _ _ _ rfl rfl rfl HRN.out ?_))
          go_roundw
          case rel=>exact⟨m+1,zO,zN,zh (next_noDup HX.out HNDM.out (by rw[HLL.out];exact HCO.out)),(by unfold CrAll;rw[take_snoc HX.out,←List.append_assoc,HLL.out,List.length_append,List.map_append];exact HOW.out),HXU.out,HBU.out⟩
          case measure=>exact zJ
         ·rw[hcon] at hhas;have HHA:=zh hhas;have HF:=zh (show checkCase c=1 from check_dup (k:=k+1) h8 (by rw[take_allIds HPK.out HX.out HNDM.out (by rw[HLL.out];exact hcon),Bool.and_false]));clear hcon hhas
          go_wp2_with (go_at_call 194;refine zM HHA ?_;rintro e w' ⟨rfl,rfl⟩)
          go_ret
          exact⟨ret_int HF.out.symm,HBW.out⟩
        ·have hme:p.sherds.take m=p.sherds:=List.take_of_length_le zO;have HME:=zh hme;clear hme
         go_wp2_with fail
         go_roundw
         case rel=>
          have e:allIds (c.parts.take (k+1))=allIds (c.parts.take k)++p.sherds.take m:=by rw[take_snoc HPK.out,allIds_snoc,HME.out]
          exact⟨k+1,zO,zN,zh (by rw[e];exact HNDM.out),zh (parts_step HPK.out HPB.out HPT.out),by rw[e,HLL.out];exact HALL.out,HBX.out,HBW.out⟩
         case measure=>exact zJ
     ·have hke:k=c.parts.length:=by omega
      have HF:=zh (show checkCase c=0 from check_ok h8 hlt (by rw[HND.out,HOK.out];rfl) HPT.out);clear hke
      go_wp2_with fail
      go_ret
      exact⟨ret_int HF.out.symm,HBW.out⟩
   ·have hy:(c.by_ != 0)=false:=by
     have h1:=HLB.out;simp at hz
     simp
     omega
    go_enter Tryz.func143,Tryz.ntmps143
    go_upto_region 1 with fail
    simp only[HW.out]
    go_upto_region 4 with (go_at_call 191;refine zM HN ?_;rintro e w2 ⟨rfl,hb2⟩;have e2:∀i,w2.cell? ⟨w.heap.size,i,none⟩=(#[.string c.ware,.int .i64 c.limit,.int .i64 c.by_,.slice pa c.parts.length pc]:Array Value)[i]?:=(HX1.out.below' hb2).cell;have HB2:=zh hb2;clear hb2)
    clear e1;have hB:=HB1.out.trans (HB2.out.mono HB1.out.size);have HB:=zh hB;clear hB
    go_wp2_with (go_at_call 192;(with_reducible refine(within_any _ _ _ _).mono ?_);rintro e w' ⟨rfl,rfl⟩)
    have HX2:=zh (HX1.out.below' HB2.out);clear e2
    go_loopw [4,5] (fun av iv wr=>∃k:Nat,k≤c.parts.length∧iv = .int .i64 k∧Hid (noDup (allIds (c.parts.take k))=true)∧Hid (∀(j:Nat) p,j<k→c.parts[j]?=some p→isPartB p=true)∧CrAll w (allIds (c.parts.take k)) av wr∧Box wr w.heap.size (csCells c pa pc) 24∧Below w.heap.size w wr) (fun _ iv _=>c.parts.length-(intOf iv).toNat)
    case atStart=>exact⟨0,Nat.zero_le _,rfl,zh (by simp[noDup,allIds]),zh (fun j p hj=>absurd hj (Nat.not_lt_zero j)),ownsRow_nil _ _ _ _,HX2.out,HB.out⟩
    case round=>
     obtain⟨k,hk,rfl,HND,HPT,hall,hbx,hbw⟩:=hrel;have e2:=zC (hbx);have HALL:=zh hall;have HBX:=zh hbx;have HBW:=zh hbw;clear hall hbx hbw
     by_cases hlt:k<c.parts.length
     ·obtain⟨b,o,p,hpa,hpk,hP⟩:=HP.out.at_ hlt;subst hpa;have hsz3:=H3.out p (List.mem_of_getElem? hpk);obtain⟨sa,sc,ra,rc,q0,q1,q2,q3,q4,q5,q6,q7,hi1,hi2,hc1,hc2⟩:=hP.open;have p0:=below_cell HBW.out q0;have p1:=below_cell HBW.out q1;have p2:=below_cell HBW.out q2;have p3:=below_cell HBW.out q3;have p4:=below_cell HBW.out q4;have p5:=below_cell HBW.out q5;have p6:=below_cell HBW.out q6;have p7:=below_cell HBW.out q7;have HQ0:=zh q0;have hkn:(k:Int)<(c.parts.length:Int):=by omega
      have HPR:=zh (part_ref p sa ra sc rc wr (hi1.below HBW.out) (hi2.below HBW.out) zO zO);have HPK:=zh hpk;have HI1:=zh hi1;have hal:(allIds (c.parts.take k)).length≤720:=by
       have h1:=allIds_len 60 (c.parts.take k) (fun q hq=>(H3.out q (List.mem_of_mem_take hq)).1);have h2:(c.parts.take k).length≤12:=by rw[List.length_take];omega
       have h3:=Nat.mul_le_mul_left 60 h2
       omega
      clear hP hpk hi1 hi2 q0 q1 q2 q3 q4 q5 q6 q7
      rcases hpb:isPartB p with _|_
      ·have HF:=zh (check_false h8 HPK.out hpb)
       go_wp2_with (go_at_call 193;refine zM HPR ?_;rintro e w3 ⟨rfl,hb3⟩;have HB3:=zh hb3;clear hb3)
       go_ret
       exact⟨ret_int HF.out.symm,HBW.out.trans (HB3.out.mono HBW.out.size)⟩
      ·have HPB:=zh hpb
       go_wp2_with (go_at_call 193;refine zM HPR ?_;rintro e w3 ⟨rfl,hb3⟩;have HB3:=zh hb3;clear hb3)
       clear p0 p1 p2 p3 p4 p5 p6 p7 e2;have HA3:=zh (ownsRow_keep HALL.out (Keep.of_below' (K:=fun _=>True) HB3.out) (fun _ _=>trivial));have HX3:=zh (HBX.out.below' HB3.out);have HW3:=zh (HBW.out.trans (HB3.out.mono HBW.out.size));clear HALL HBX HBW HPR
       go_loopw [4,7] (fun av kv wx=>∃m:Nat,m≤p.sherds.length∧kv = .int .i64 m∧Hid (noDup (allIds (c.parts.take k)++p.sherds.take m)=true)∧CrAll w (allIds (c.parts.take k)++p.sherds.take m) av wx∧Box wx w.heap.size (csCells c (some ⟨b,o,none⟩) pc) 24∧Below w.heap.size w wx) (fun _ kv _=>p.sherds.length-(intOf kv).toNat)
       case atStart=>exact⟨0,Nat.zero_le _,rfl,zh (by rw[List.take_zero,List.append_nil];exact HND.out),(by rw[List.take_zero,List.append_nil];exact HA3.out),HX3.out,HW3.out⟩
       case round=>
        clear HA3 HX3 HW3;obtain⟨m,hm,rfl,HNDM,hall,hbx,hbw⟩:=hrel;have e2:∀i,wr.cell? ⟨w.heap.size,i,none⟩=(#[.string c.ware,.int .i64 c.limit,.int .i64 c.by_,.slice (some ⟨b,o,none⟩) c.parts.length pc]:Array Value)[i]?:=hbx.cell;have p0:=below_cell hbw HQ0.out;obtain⟨L,hL⟩:=zx (allIds (c.parts.take k)++p.sherds.take m);rw[hL] at hall;have hLl:L.length≤1000:=by rw[←hL,List.length_append,List.length_take];omega
        have HLL:=zh hL;have HALL:=zh hall;have HBX:=zh hbx;have HBW:=zh hbw;clear hall hbx hbw hL
        by_cases hml:m<p.sherds.length
        ·obtain⟨x,hx⟩:=get_of_lt p.sherds hml;obtain⟨b2,o2,hsa,hcell⟩:=(HI1.out.below HBW.out).base zO;subst hsa;have c1:=hcell m x hx;have hmn:(m:Int)<(p.sherds.length:Int):=by omega
         obtain⟨a5,c5,hav,hro,hcap⟩:=ownsRow_own HALL.out;have hhas:=has_any a5 c5 L x wr hro.row zO;have HX:=zh hx;subst hav;clear hcell hx hro
         rcases hcon:L.contains x with _|_
         ·rw[hcon] at hhas;have HHA:=zh hhas;have HCO:=zh hcon;obtain⟨v',U,hrun,hown,hg,_⟩:=run_append_row (P:=Tryz.prog) (wr.alloc (.cells #[.int .i64 x] 3)) (w.heap.size+1) 26 26 3 (.int .i64 0) 1 8 Tryz.underlying26 info_int rfl zO
           _ _ _ (ownsRow_keep HALL.out ((Keep.refl (fun _=>True) wr).alloc (.cells #[.int .i64 x] 3)) (fun _ _=>trivial)) (some ⟨wr.heap.size,0,none⟩) 1 1 [.int .i64 x] rfl (fun j u hu=>⟨wr.heap.size,0,rfl,by rw[(Box.new wr _ _).cell,Nat.zero_add];simpa using hu⟩) (by simp[Value.oneCell']) zO zO (by have:=HBX.out.lt;simp;omega)
          have hbU:Below w.heap.size w U:=(HBW.out.alloc HBW.out.size (.cells #[.int .i64 x] 3)).grown hg (by have:=HBX.out.lt;simp;omega) (fun j hj=>by have:=(HALL.out.lt j hj).1;omega);have hxU:Box U w.heap.size (csCells c (some ⟨b,o,none⟩) pc) 24:=(HBX.out.alloc _).grown hg (fun he=>by have:=(HALL.out.lt _ he.symm).1;omega);have HRN:=zh hrun;have HOW:=zh hown;have HBU:=zh hbU;have HXU:=zh hxU;clear hcon hhas hrun hown hg hbU hxU
          go_wp2_with (first
           |(go_at_call 194;refine zM HHA ?_;rintro e w' ⟨rfl,rfl⟩)
           |(at_builtin;refine wpList_app rfl _ _ _ rfl rfl rfl HRN.out ?_))
          go_roundw
          case rel=>exact⟨m+1,zO,zN,zh (next_noDup HX.out HNDM.out (by rw[HLL.out];exact HCO.out)),(by unfold CrAll;rw[take_snoc HX.out,←List.append_assoc,HLL.out,List.length_append,List.map_append];exact HOW.out),HXU.out,HBU.out⟩
          case measure=>exact zJ
         ·rw[hcon] at hhas;have HHA:=zh hhas;have HF:=zh (show checkCase c=1 from check_dup (k:=k+1) h8 (by rw[take_allIds HPK.out HX.out HNDM.out (by rw[HLL.out];exact hcon),Bool.and_false]));clear hcon hhas
          go_wp2_with (go_at_call 194;refine zM HHA ?_;rintro e w' ⟨rfl,rfl⟩)
          go_ret
          exact⟨ret_int HF.out.symm,HBW.out⟩
        ·have hme:p.sherds.take m=p.sherds:=List.take_of_length_le zO;have HME:=zh hme;clear hme
         go_wp2_with fail
         go_roundw
         case rel=>
          have e:allIds (c.parts.take (k+1))=allIds (c.parts.take k)++p.sherds.take m:=by rw[take_snoc HPK.out,allIds_snoc,HME.out]
          exact⟨k+1,zO,zN,zh (by rw[e];exact HNDM.out),zh (parts_step HPK.out HPB.out HPT.out),by rw[e,HLL.out];exact HALL.out,HBX.out,HBW.out⟩
         case measure=>exact zJ
     ·have hke:k=c.parts.length:=by omega
      have HF:=zh (show checkCase c=0 from check_ok h8 hlt (by rw[HND.out,HOK.out];rfl) HPT.out);clear hke
      go_wp2_with fail
      go_ret
      exact⟨ret_int HF.out.symm,HBW.out⟩
theorem asked_ref (c:Cs)(hsm:c.Small)(pa:Option Addr)(pc:Nat)(x y:Int)(w:World)(hp:PartsAt w pa c.parts):
 Calls Tryz.prog 158 #[.agg #[.string c.ware,.int .i64 c.limit,.int .i64 c.by_,.slice pa c.parts.length pc],.int .i64 x,.int .i64 y] w fun e w'=>e = .returned (.int .i64 (openErr c [x,y]))∧Below w.heap.size w w':=by
 obtain⟨w1,hw1⟩:=zx (w.alloc (.cells #[.string c.ware,.int .i64 c.limit,.int .i64 c.by_,.slice pa c.parts.length pc] 24));have hB1:Below w.heap.size w w1:=by rw[←hw1];go_grown
 have b1:Box w1 w.heap.size (csCells c pa pc) 24:=by rw[←hw1];exact Box.new _ _ _
 have e1:=zC (b1);have hcc:=checkCase_ref c hsm pa pc w1 (hp.below hB1);have hl10:=hsm.1;have hwl:IntKind.i64.wrap ((c.parts.length:Int)-1)=(c.parts.length:Int)-1:=IntWalk.i64_in _ zO;have HW:=zh hw1;have HB1:=zh hB1;have HX:=zh b1;have HCC:=zh hcc;clear hw1 hB1 b1 hcc hp
 by_cases hz:checkCase c=0
 ·have HZ:=zh hz;rw[hz] at HCC;clear hz
  go_enter Tryz.func158,Tryz.ntmps158
  go_upto_region 1 with fail
  simp only[HW.out]
  go_upto_region 4 with (go_at_call 143;refine zM HCC ?_;rintro e w2 ⟨rfl,hb2⟩;have e2:∀i,w2.cell? ⟨w.heap.size,i,none⟩=(#[.string c.ware,.int .i64 c.limit,.int .i64 c.by_,.slice pa c.parts.length pc]:Array Value)[i]?:=(HX.out.below' hb2).cell;have HB2:=zh hb2;clear hb2)
  clear e1
  rcases h1:inB x 0 ((c.parts.length:Int)-1) with _|_
  ·have HF:=zh (show openErr c [x,y]=1 by simp[openErr,HZ.out,h1])
   go_wp2_with (go_at_call 192;(with_reducible refine(within_any _ _ _ _).mono ?_);rintro e w' ⟨rfl,rfl⟩)
   go_ret
   exact⟨ret_int HF.out.symm,HB1.out.trans (HB2.out.mono HB1.out.size)⟩
  ·rcases h2:inB y 0 ((c.parts.length:Int)-1) with _|_
   ·have HF:=zh (show openErr c [x,y]=1 by simp[openErr,HZ.out,h1,h2])
    go_wp2_with (go_at_call 192;(with_reducible refine(within_any _ _ _ _).mono ?_);rintro e w' ⟨rfl,rfl⟩)
    go_ret
    exact⟨ret_int HF.out.symm,HB1.out.trans (HB2.out.mono HB1.out.size)⟩
   ·have HF:=zh (show openErr c [x,y]=0 by simp[openErr,HZ.out,h1,h2])
    go_wp2_with (go_at_call 192;(with_reducible refine(within_any _ _ _ _).mono ?_);rintro e w' ⟨rfl,rfl⟩)
    go_ret
    exact⟨ret_int HF.out.symm,HB1.out.trans (HB2.out.mono HB1.out.size)⟩
 ·have HF:=zh (show openErr c [x,y]=checkCase c by simp[openErr,hz]);have hzz:(checkCase c != 0)=true:=by simpa using hz
  clear hz
  go_enter Tryz.func158,Tryz.ntmps158
  go_upto_region 1 with fail
  simp only[HW.out]
  go_wp2_with (go_at_call 143;refine zM HCC ?_;rintro e w2 ⟨rfl,hb2⟩;have HB2:=zh hb2;clear hb2)
  go_ret
  exact⟨ret_int HF.out.symm,HB1.out.trans (HB2.out.mono HB1.out.size)⟩
end
