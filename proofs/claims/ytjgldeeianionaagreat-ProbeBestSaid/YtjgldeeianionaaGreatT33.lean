/- The walks and plain laws of: MQProved MQArgs. No condition. -/
import Derived.Test.YtjgldeeianionaaGreatT11
import Derived.Test.YtjgldeeianionaaGreatT30
import Derived.Test.YtjgldeeianionaaGreatT01
set_option maxHeartbeats 4000000
set_option maxRecDepth 100000
set_option linter.unusedSimpArgs false
set_option linter.unusedVariables false
namespace Go.Proofs.YtjgldeeianionaaGreat
open Go.RowKit
attribute [local go_sem] Oper.semAt_some
structure Ver where
 found:List Int
 ans:Nat
 proof:List Br
def provedB (c:Cs)(l:List Prb)(a b:Nat)(s fs:List Nat)(n:Nat)(pf:List Br):Bool:=match afterC c l s fs with
 |none=>n==0&&pf.length==0
 |some d=>if n=0 then(refutedB d d.parts.length (fun _ _=>0) pf).isSome else if n=1∨n=2 then(refutedB d d.parts.length (beginD a b (n==2)) pf).isSome else false
theorem open_two {d:Cs}(h:checkCase d=0){a b:Nat}(ha:a<d.parts.length)(hb:b<d.parts.length):openErr d [(a:Int),(b:Int)]=0:=by
 unfold openErr;rw[if_pos h,if_pos]
 simp[inB];omega
theorem open_none {d:Cs}(h:checkCase d=0):openErr d []=0:=by simp[openErr,h]
section
variable {t:Nat}{c:Cs}{pa:Option Addr}{pc:Nat}{l:List Prb}{qa:Option Addr}{qc:Nat}
theorem proved_any (hsm:c.Small)(hpr:probesErr c l=0)(a b:Nat)(ha:a<c.parts.length)(hb:b<c.parts.length)(sa:Option Addr)(s:List Nat)(sc:Nat)(fa:Option Addr)(fs:List Nat)(fc:Nat)(n:Nat)(hn:n<256)(ra:Option Addr)(pf:List Br)(rc:Nat)(hll:pf.length≤1000000)(hls:∀z∈pf,z.Small)(hrc:pf.length≤rc)
 (w:World) (h:LabAt w t c pa pc l qa qc) (hS:Ints w sa (natInts s)) (hF:Ints w fa (natInts fs)) (hP:BrsAt w ra pf) (hsl:s.length≤1000) (hff:FoundFor c l s fs):
 Calls Tryz.prog 117 #[.pointer (some ⟨t,0,none⟩),.int .i64 a,.int .i64 b,.slice sa s.length sc,.agg #[.slice fa fs.length fc,.int .u8 n,.slice ra pf.length rc]] w fun e w'=>e = .returned (.bool (provedB c l a b s fs n pf))∧Below w.heap.size w w':=by
 obtain⟨w1,hw1⟩:=zx (w.alloc (.cells #[.slice fa fs.length fc,.int .u8 n,.slice ra pf.length rc] 102));have hB1:Below w.heap.size w w1:=by rw[←hw1];go_grown
 have b1:Box w1 w.heap.size #[.slice fa fs.length fc,.int .u8 n,.slice ra pf.length rc] 102:=by rw[←hw1];exact Box.new _ _ _
 have HA:=zh (after_all hsm hpr sa s sc fa fs fc w1 (h.below hB1) (hS.below hB1) (hF.below hB1) hsl hff.1 hff.2);have e1:=b1.cell;have HW:=zh hw1;have HB1:=zh hB1;have HX:=zh b1;have HPR:=zh hpr;have HP:=zh hP;have HLS:=zh hls;have hn0:(0:Int)≤(n:Int):=by omega
 have hn2:(n:Int)<256:=by omega
 clear hw1 hB1 b1 h hS hF hff hpr hP hls
 go_enter Tryz.func117,Tryz.ntmps117
 go_upto_region 1 with fail
 simp only[HW.out]
 go_wp2_with fail
 refine zM HA ?_;rintro e w2 hpost;obtain⟨hb2,(⟨ho,rfl⟩|⟨d,ba,pc',ho,rfl,hpt⟩)⟩:=hpost.some_
 ·obtain⟨w3,hw3⟩:=zx (w2.alloc (.cells #[.string ⟨#[]⟩,.int .i64 0,.int .i64 0,.slice none 0 0] 24));have hB3:Below w2.heap.size w2 w3:=by rw[←hw3];go_grown
  have HB:=zh (HB1.out.trans ((hb2.trans (hB3.mono hb2.size)).mono HB1.out.size));have HX3:=zh ((HX.out.below' hb2).below' hB3);have HW3:=zh hw3;have HFE:=zh (show provedB c l a b s fs n pf=(n==0&&pf.length==0) by simp[provedB,ho]);clear hb2 ho hpost hB3 hw3 e1;have e1:=HX3.out.cell
  go_upto_region 2 with fail
  simp only[HW3.out]
  by_cases h0:n=0
  ·subst h0
   by_cases hp0:pf.length=0
   ·have hpb:((pf.length:Int)==0)=true:=beq_iff_eq.2 zO;have HFB:=zh (show provedB c l a b s fs 0 pf=true by rw[HFE.out];simp[hp0]);clear hp0
    go_wp2_with fail
    go_ret
    exact⟨by rw[HFB.out];first|rfl|simp,HB.out⟩
   ·have hpb:((pf.length:Int)==0)=false:=beq_eq_false_iff_ne.2 zO;have HFB:=zh (show provedB c l a b s fs 0 pf=false by rw[HFE.out];simp[hp0]);clear hp0
    go_wp2_with fail
    go_ret
    exact⟨by rw[HFB.out];first|rfl|simp,HB.out⟩
  ·have hnb:((n:Int)==0)=false:=by simp;omega
   have HFB:=zh (show provedB c l a b s fs n pf=false by rw[HFE.out];simp[h0]);clear h0
   go_wp2_with fail
   go_ret
   exact⟨by rw[HFB.out];first|rfl|simp,HB.out⟩
 have hao:=after_ok HPR.out ho;obtain⟨w3,hw3⟩:=zx (w2.alloc (.cells #[.string d.ware,.int .i64 d.limit,.int .i64 d.by_,.slice ba d.parts.length pc'] 24));have hB3:Below w2.heap.size w2 w3:=by rw[←hw3];go_grown
 have HB3:=zh (HB1.out.trans ((hb2.trans (hB3.mono hb2.size)).mono HB1.out.size));have HX3:=zh ((HX.out.below' hb2).below' hB3);have HG3:Hid (Box w3 w2.heap.size #[.string d.ware,.int .i64 d.limit,.int .i64 d.by_,.slice ba d.parts.length pc'] 24):=zh (by rw[←hw3];exact Box.new _ _ _);have HW3:=zh hw3;have HPT:=zh (hpt.below hB3).at_;have HO:=zh ho;have HBR:=zh (HP.out.below HB3.out);have hln:=hao.len;have HCK:=zh hao.chk;have hoe:=open_two hao.chk (a:=a) (b:=b) zO zO;have HOE:=zh hoe;clear hb2 ho hpost hB3 hw3 e1 hao hpt hoe hln;have e1:=HX3.out.cell;have eG:=HG3.out.cell
 go_upto_region 2 with fail
 simp only[HW3.out]
 by_cases h0:n=0
 ·subst h0;have hcn:=checkNone_any d (small_of HCK.out) ba pc' pf hll HLS.out ra rc w3 HPT.out HBR.out hrc;rw[open_none HCK.out] at hcn;have HCN:=zh hcn;obtain⟨r,hr⟩:=zx (((0:Int)==0&&(refutedB d d.parts.length (fun _ _=>0) pf).isSome));rw[hr] at HCN;have HFB:=zh (show provedB c l a b s fs 0 pf=r by rw[←hr];simp[provedB,HO.out]);clear hcn hr
  go_wp2_with fail
  refine zM HCN ?_;rintro e w4 ⟨hb4,rfl⟩;have HB:=zh (HB3.out.trans (hb4.mono HB3.out.size));clear hb4 e1 eG;cases r
  ·go_wp2_with fail
   go_ret
   exact⟨by rw[HFB.out];first|rfl|simp,HB.out⟩
  ·go_wp2_with fail
   go_ret
   exact⟨by rw[HFB.out];first|rfl|simp,HB.out⟩
 by_cases h12:n=1∨n=2
 ·rcases h12 with rfl|rfl
  ·have hcr:=checkRefute_any d (small_of HCK.out) ba pc' a b false pf hll HLS.out ra rc w3 HPT.out HBR.out hrc;rw[HOE.out] at hcr;have HCN:=zh hcr;clear hcr;simp only[Int.toNat_natCast] at HCN;obtain⟨r,hr⟩:=zx (((0:Int)==0&&(refutedB d d.parts.length (beginD a b false) pf).isSome));rw[hr] at HCN;have HFB:=zh (show provedB c l a b s fs 1 pf=r by rw[←hr];simp[provedB,HO.out]);clear hr h0
   go_wp2_with fail
   refine zM HCN ?_;rintro e w4 ⟨hb4,rfl⟩;have HB:=zh (HB3.out.trans (hb4.mono HB3.out.size));clear hb4 e1 eG;cases r
   ·go_wp2_with fail
    go_ret
    exact⟨by rw[HFB.out];first|rfl|simp,HB.out⟩
   ·go_wp2_with fail
    go_ret
    exact⟨by rw[HFB.out];first|rfl|simp,HB.out⟩
  ·have hcr:=checkRefute_any d (small_of HCK.out) ba pc' a b true pf hll HLS.out ra rc w3 HPT.out HBR.out hrc;rw[HOE.out] at hcr;have HCN:=zh hcr;clear hcr;simp only[Int.toNat_natCast] at HCN;obtain⟨r,hr⟩:=zx (((0:Int)==0&&(refutedB d d.parts.length (beginD a b true) pf).isSome));rw[hr] at HCN;have HFB:=zh (show provedB c l a b s fs 2 pf=r by rw[←hr];simp[provedB,HO.out]);clear hr h0
   go_wp2_with fail
   refine zM HCN ?_;rintro e w4 ⟨hb4,rfl⟩;have HB:=zh (HB3.out.trans (hb4.mono HB3.out.size));clear hb4 e1 eG;cases r
   ·go_wp2_with fail
    go_ret
    exact⟨by rw[HFB.out];first|rfl|simp,HB.out⟩
   ·go_wp2_with fail
    go_ret
    exact⟨by rw[HFB.out];first|rfl|simp,HB.out⟩
 ·have hnb0:((n:Int)==0)=false:=by simp;omega
  have hnb1:((n:Int)==1)=false:=by simp;omega
  have hnb2:((n:Int)==2)=false:=by simp;omega
  have HFB:=zh (show provedB c l a b s fs n pf=false by simp[provedB,HO.out,h0,h12]);have HB:=HB3;clear h0 h12
  go_wp2_with fail
  go_ret
  exact⟨by rw[HFB.out];first|rfl|simp,HB.out⟩
end
section
variable {t:Nat}{c:Cs}{pa:Option Addr}{pc:Nat}{l:List Prb}{qa:Option Addr}{qc:Nat}
theorem after1_arg (hpr:probesErr c l=0)(g1 g2:Nat)(sa:Option Addr)(S:List Int)(sc:Nat)(fa:Option Addr)(F:List Int)(fc:Nat)(w:World)(h:LabAt w t c pa pc l qa qc)(hS:Ints w sa S)(hF:Ints w fa F)(hSl:S.length≤1000000)(hFl:F.length≤1000000)
 (h1:Box w g1 #[.slice sa S.length sc] 26) (h2:Box w g2 #[.slice fa F.length fc] 26):
 Calls Tryz.prog 59 #[.pointer (some ⟨t,0,none⟩),.pointer (some ⟨g1,0,none⟩),.pointer (some ⟨g2,0,none⟩)] w (NeedPost (foundB c l S F) w):=by
 have HF:=zh (found_any hpr sa S sc fa F fc w h hS hF hSl hFl);have e0:=h1.cell;have e1:=h2.cell;generalize foundB c l S F=r at *;clear hpr h hS hF h1 h2
 go_enter Tryz.func59,Tryz.ntmps59
 go_wp2_with fail
 refine zM HF ?_;rintro e w2 ⟨hb2,(⟨hok,rfl⟩|⟨hok,rfl⟩)⟩
 ·go_wp2_with fail
  go_end0
  exact needPost_ok hok hb2
 ·go_wp2_with fail
  exact⟨rfl,needPost_no zS hb2⟩
theorem can1_arg (hpr:probesErr c l=0)(g1 g2:Nat)(sa:Option Addr)(S:List Int)(sc:Nat)(fa:Option Addr)(F:List Int)(fc:Nat)(w:World)(h:LabAt w t c pa pc l qa qc)(hS:Ints w sa S)(hF:Ints w fa F)(hSl:S.length≤1000000)(hFl:F.length≤1000000)
 (h1:Box w g1 #[.slice sa S.length sc] 26) (h2:Box w g2 #[.slice fa F.length fc] 26):
 Calls Tryz.prog 65 #[.pointer (some ⟨t,0,none⟩),.pointer (some ⟨g1,0,none⟩),.pointer (some ⟨g2,0,none⟩)] w (NeedPost (foundB c l S F) w):=by
 have HF:=zh (found_any hpr sa S sc fa F fc w h hS hF hSl hFl);have e0:=h1.cell;have e1:=h2.cell;generalize foundB c l S F=r at *;clear hpr h hS hF h1 h2
 go_enter Tryz.func65,Tryz.ntmps65
 go_wp2_with fail
 refine zM HF ?_;rintro e w2 ⟨hb2,(⟨hok,rfl⟩|⟨hok,rfl⟩)⟩
 ·go_wp2_with fail
  go_end0
  exact needPost_ok hok hb2
 ·go_wp2_with fail
  exact⟨rfl,needPost_no zS hb2⟩
theorem settled1_arg (hpr:probesErr c l=0)(g1 g2:Nat)(sa:Option Addr)(S:List Int)(sc:Nat)(fa:Option Addr)(F:List Int)(fc:Nat)(w:World)(h:LabAt w t c pa pc l qa qc)(hS:Ints w sa S)(hF:Ints w fa F)(hSl:S.length≤1000000)(hFl:F.length≤1000000)
 (h1:Box w g1 #[.slice sa S.length sc] 26) (h2:Box w g2 #[.slice fa F.length fc] 26):
 Calls Tryz.prog 69 #[.pointer (some ⟨t,0,none⟩),.pointer (some ⟨g1,0,none⟩),.pointer (some ⟨g2,0,none⟩)] w (NeedPost (foundB c l S F) w):=by
 have HF:=zh (found_any hpr sa S sc fa F fc w h hS hF hSl hFl);have e0:=h1.cell;have e1:=h2.cell;generalize foundB c l S F=r at *;clear hpr h hS hF h1 h2
 go_enter Tryz.func69,Tryz.ntmps69
 go_wp2_with fail
 refine zM HF ?_;rintro e w2 ⟨hb2,(⟨hok,rfl⟩|⟨hok,rfl⟩)⟩
 ·go_wp2_with fail
  go_end0
  exact needPost_ok hok hb2
 ·go_wp2_with fail
  exact⟨rfl,needPost_no zS hb2⟩
theorem cheapest1_arg (hsm:c.Small)(g1 g2:Nat)(a b:Int)(w:World)(h:LabAt w t c pa pc l qa qc)(h1:Box w g1 #[.int .i64 a] 3)(h2:Box w g2 #[.int .i64 b] 3):
 Calls Tryz.prog 78 #[.pointer (some ⟨t,0,none⟩),.pointer (some ⟨g1,0,none⟩),.pointer (some ⟨g2,0,none⟩)] w (NeedPost (twoB c.parts.length a b) w):=by
 have HF:=zh (two_any (by have:=hsm.1;omega) a b w h);have e0:=h1.cell;have e1:=h2.cell;generalize twoB c.parts.length a b=r at *;clear h h1 h2
 go_enter Tryz.func78,Tryz.ntmps78
 go_wp2_with fail
 refine zM HF ?_;rintro e w2 ⟨hb2,(⟨hok,rfl⟩|⟨hok,rfl⟩)⟩
 ·go_wp2_with fail
  go_end0
  exact needPost_ok hok hb2
 ·go_wp2_with fail
  exact⟨rfl,needPost_no zS hb2⟩
theorem proof1_arg (hsm:c.Small)(g1 g2:Nat)(a b:Int)(w:World)(h:LabAt w t c pa pc l qa qc)(h1:Box w g1 #[.int .i64 a] 3)(h2:Box w g2 #[.int .i64 b] 3):
 Calls Tryz.prog 83 #[.pointer (some ⟨t,0,none⟩),.pointer (some ⟨g1,0,none⟩),.pointer (some ⟨g2,0,none⟩)] w (NeedPost (twoB c.parts.length a b) w):=by
 have HF:=zh (two_any (by have:=hsm.1;omega) a b w h);have e0:=h1.cell;have e1:=h2.cell;generalize twoB c.parts.length a b=r at *;clear h h1 h2
 go_enter Tryz.func83,Tryz.ntmps83
 go_wp2_with fail
 refine zM HF ?_;rintro e w2 ⟨hb2,(⟨hok,rfl⟩|⟨hok,rfl⟩)⟩
 ·go_wp2_with fail
  go_end0
  exact needPost_ok hok hb2
 ·go_wp2_with fail
  exact⟨rfl,needPost_no zS hb2⟩
theorem checkDoubt1_arg (hsm:c.Small)(g1 g2:Nat)(a b:Int)(w:World)(h:LabAt w t c pa pc l qa qc)(h1:Box w g1 #[.int .i64 a] 3)(h2:Box w g2 #[.int .i64 b] 3):
 Calls Tryz.prog 127 #[.pointer (some ⟨t,0,none⟩),.pointer (some ⟨g1,0,none⟩),.pointer (some ⟨g2,0,none⟩)] w (NeedPost (twoB c.parts.length a b) w):=by
 have HF:=zh (two_any (by have:=hsm.1;omega) a b w h);have e0:=h1.cell;have e1:=h2.cell;generalize twoB c.parts.length a b=r at *;clear h h1 h2
 go_enter Tryz.func127,Tryz.ntmps127
 go_wp2_with fail
 refine zM HF ?_;rintro e w2 ⟨hb2,(⟨hok,rfl⟩|⟨hok,rfl⟩)⟩
 ·go_wp2_with fail
  go_end0
  exact needPost_ok hok hb2
 ·go_wp2_with fail
  exact⟨rfl,needPost_no zS hb2⟩
theorem decides1_arg (hsm:c.Small)(hpr:probesErr c l=0)(g1 g2 g3:Nat)(a b:Int)(sa:Option Addr)(S:List Int)(sc:Nat)(w:World)(h:LabAt w t c pa pc l qa qc)(hS:Ints w sa S)(hSl:S.length≤1000000)(h1:Box w g1 #[.int .i64 a] 3)(h2:Box w g2 #[.int .i64 b] 3)(h3:Box w g3 #[.slice sa S.length sc] 26):
 Calls Tryz.prog 101 #[.pointer (some ⟨t,0,none⟩),.pointer (some ⟨g1,0,none⟩),.pointer (some ⟨g2,0,none⟩),.pointer (some ⟨g3,0,none⟩)] w (NeedPost (twoB c.parts.length a b&&setB l.length S) w):=by
 have HF:=zh (two_any (by have:=hsm.1;omega) a b w h);have HG:=zh (fun W (hW:Below w.heap.size w W)=>set_any (by have:=(probes_ok hpr).2.1;omega) sa S sc W (h.below hW) (hS.below hW) hSl);have HE:=zh (fun W (hW:Below w.heap.size w W)=>And.intro (h1.below' hW).cell (And.intro (h2.below' hW).cell (h3.below' hW).cell));have e0:=h1.cell;have e1:=h2.cell;have e2:=h3.cell;generalize twoB c.parts.length a b=r at *;generalize setB l.length S=r2 at *;clear hpr h hS h1 h2 h3
 go_enter Tryz.func101,Tryz.ntmps101
 go_wp2_with fail
 refine zM HF ?_;rintro e w2 ⟨hb2,(⟨hok,rfl⟩|⟨hok,rfl⟩)⟩;rotate_left
 ·go_wp2_with fail
  exact⟨rfl,needPost_no zS hb2⟩
 subst hok;have HB2:=zh hb2;have HG2:=zh (HG.out w2 hb2);obtain⟨e0,e1,e2⟩:=HE.out w2 hb2;clear hb2
 go_wp2_with fail
 refine zM HG2 ?_;rintro e w3 ⟨hb3,(⟨hok,rfl⟩|⟨hok,rfl⟩)⟩
 ·have HB3:=zh (HB2.out.trans (hb3.mono HB2.out.size));clear hb3
  go_wp2_with fail
  go_end0
  exact needPost_ok (by simpa using hok) HB3.out
 ·have HB3:=zh (HB2.out.trans (hb3.mono HB2.out.size));clear hb3
  go_wp2_with fail
  exact⟨rfl,needPost_no zS HB3.out⟩
theorem doubt1_arg (hsm:c.Small)(hpr:probesErr c l=0)(g1 g2 g3:Nat)(a b:Int)(sa:Option Addr)(S:List Int)(sc:Nat)(w:World)(h:LabAt w t c pa pc l qa qc)(hS:Ints w sa S)(hSl:S.length≤1000000)(h1:Box w g1 #[.int .i64 a] 3)(h2:Box w g2 #[.int .i64 b] 3)(h3:Box w g3 #[.slice sa S.length sc] 26):
 Calls Tryz.prog 107 #[.pointer (some ⟨t,0,none⟩),.pointer (some ⟨g1,0,none⟩),.pointer (some ⟨g2,0,none⟩),.pointer (some ⟨g3,0,none⟩)] w (NeedPost (twoB c.parts.length a b&&setB l.length S) w):=by
 have HF:=zh (two_any (by have:=hsm.1;omega) a b w h);have HG:=zh (fun W (hW:Below w.heap.size w W)=>set_any (by have:=(probes_ok hpr).2.1;omega) sa S sc W (h.below hW) (hS.below hW) hSl);have HE:=zh (fun W (hW:Below w.heap.size w W)=>And.intro (h1.below' hW).cell (And.intro (h2.below' hW).cell (h3.below' hW).cell));have e0:=h1.cell;have e1:=h2.cell;have e2:=h3.cell;generalize twoB c.parts.length a b=r at *;generalize setB l.length S=r2 at *;clear hpr h hS h1 h2 h3
 go_enter Tryz.func107,Tryz.ntmps107
 go_wp2_with fail
 refine zM HF ?_;rintro e w2 ⟨hb2,(⟨hok,rfl⟩|⟨hok,rfl⟩)⟩;rotate_left
 ·go_wp2_with fail
  exact⟨rfl,needPost_no zS hb2⟩
 subst hok;have HB2:=zh hb2;have HG2:=zh (HG.out w2 hb2);obtain⟨e0,e1,e2⟩:=HE.out w2 hb2;clear hb2
 go_wp2_with fail
 refine zM HG2 ?_;rintro e w3 ⟨hb3,(⟨hok,rfl⟩|⟨hok,rfl⟩)⟩
 ·have HB3:=zh (HB2.out.trans (hb3.mono HB2.out.size));clear hb3
  go_wp2_with fail
  go_end0
  exact needPost_ok (by simpa using hok) HB3.out
 ·have HB3:=zh (HB2.out.trans (hb3.mono HB2.out.size));clear hb3
  go_wp2_with fail
  exact⟨rfl,needPost_no zS HB3.out⟩
theorem checkVerdicts1_arg (hsm:c.Small)(hpr:probesErr c l=0)(g1 g2 g3:Nat)(a b:Int)(sa:Option Addr)(S:List Int)(sc:Nat)(w:World)(h:LabAt w t c pa pc l qa qc)(hS:Ints w sa S)(hSl:S.length≤1000000)(h1:Box w g1 #[.int .i64 a] 3)(h2:Box w g2 #[.int .i64 b] 3)(h3:Box w g3 #[.slice sa S.length sc] 26):
 Calls Tryz.prog 113 #[.pointer (some ⟨t,0,none⟩),.pointer (some ⟨g1,0,none⟩),.pointer (some ⟨g2,0,none⟩),.pointer (some ⟨g3,0,none⟩)] w (NeedPost (twoB c.parts.length a b&&setB l.length S) w):=by
 have HF:=zh (two_any (by have:=hsm.1;omega) a b w h);have HG:=zh (fun W (hW:Below w.heap.size w W)=>set_any (by have:=(probes_ok hpr).2.1;omega) sa S sc W (h.below hW) (hS.below hW) hSl);have HE:=zh (fun W (hW:Below w.heap.size w W)=>And.intro (h1.below' hW).cell (And.intro (h2.below' hW).cell (h3.below' hW).cell));have e0:=h1.cell;have e1:=h2.cell;have e2:=h3.cell;generalize twoB c.parts.length a b=r at *;generalize setB l.length S=r2 at *;clear hpr h hS h1 h2 h3
 go_enter Tryz.func113,Tryz.ntmps113
 go_wp2_with fail
 refine zM HF ?_;rintro e w2 ⟨hb2,(⟨hok,rfl⟩|⟨hok,rfl⟩)⟩;rotate_left
 ·go_wp2_with fail
  exact⟨rfl,needPost_no zS hb2⟩
 subst hok;have HB2:=zh hb2;have HG2:=zh (HG.out w2 hb2);obtain⟨e0,e1,e2⟩:=HE.out w2 hb2;clear hb2
 go_wp2_with fail
 refine zM HG2 ?_;rintro e w3 ⟨hb3,(⟨hok,rfl⟩|⟨hok,rfl⟩)⟩
 ·have HB3:=zh (HB2.out.trans (hb3.mono HB2.out.size));clear hb3
  go_wp2_with fail
  go_end0
  exact needPost_ok (by simpa using hok) HB3.out
 ·have HB3:=zh (HB2.out.trans (hb3.mono HB2.out.size));clear hb3
  go_wp2_with fail
  exact⟨rfl,needPost_no zS HB3.out⟩
theorem worth1_arg (hsm:c.Small)(hpr:probesErr c l=0)(g1 g2 g3:Nat)(a b p:Int)(w:World)(h:LabAt w t c pa pc l qa qc)(h1:Box w g1 #[.int .i64 a] 3)(h2:Box w g2 #[.int .i64 b] 3)(h3:Box w g3 #[.int .i64 p] 3):
 Calls Tryz.prog 144 #[.pointer (some ⟨t,0,none⟩),.pointer (some ⟨g1,0,none⟩),.pointer (some ⟨g2,0,none⟩),.pointer (some ⟨g3,0,none⟩)] w (NeedPost (twoB c.parts.length a b&&setB l.length [p]) w):=by
 have HF:=zh (two_any (by have:=hsm.1;omega) a b w h);have HG:=zh (fun W (hW:Below w.heap.size w W)=>by
  have hb:Below W.heap.size W (W.alloc (.cells #[.int .i64 p] 3)):=by go_grown
  have:=set_any (by have:=(probes_ok hpr).2.1;omega) (some ⟨W.heap.size,0,none⟩) [p] 1 (W.alloc (.cells #[.int .i64 p] 3)) (h.below (hW.trans (hb.mono hW.size))) (one_row (Box.new _ _ _)) zS;simp only[List.length_cons,List.length_nil,Nat.zero_add] at this;exact And.intro this hb)
 have HE:=zh (fun W (hW:Below w.heap.size w W)=>And.intro (h1.below' hW).cell (And.intro (h2.below' hW).cell (h3.below' hW).cell));have e0:=h1.cell;have e1:=h2.cell;have e2:=h3.cell;generalize twoB c.parts.length a b=r at *;generalize setB l.length [p]=r2 at *;clear hpr h h1 h2 h3
 go_enter Tryz.func144,Tryz.ntmps144
 go_wp2_with fail
 refine zM HF ?_;rintro e w2 ⟨hb2,(⟨hok,rfl⟩|⟨hok,rfl⟩)⟩;rotate_left
 ·go_wp2_with fail
  exact⟨rfl,needPost_no zS hb2⟩
 subst hok;have HB2:=zh hb2;have HG2:=zh (HG.out w2 hb2).1;have HBA:=zh (HG.out w2 hb2).2;obtain⟨e0,e1,e2⟩:=HE.out w2 hb2;clear hb2
 go_wp2_with fail
 refine zM HG2 ?_;rintro e w3 ⟨hb3,(⟨hok,rfl⟩|⟨hok,rfl⟩)⟩
 ·have HB3:=zh ((HB2.out.trans (HBA.out.mono HB2.out.size)).trans (hb3.mono (Nat.le_trans HB2.out.size HBA.out.size)));clear hb3
  go_wp2_with fail
  go_end0
  exact needPost_ok (by simpa using hok) HB3.out
 ·have HB3:=zh ((HB2.out.trans (HBA.out.mono HB2.out.size)).trans (hb3.mono (Nat.le_trans HB2.out.size HBA.out.size)));clear hb3
  go_wp2_with fail
  exact⟨rfl,needPost_no zS HB3.out⟩
end
end Go.Proofs.YtjgldeeianionaaGreat
