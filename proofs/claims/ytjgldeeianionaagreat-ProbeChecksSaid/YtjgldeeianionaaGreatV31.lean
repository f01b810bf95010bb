/- Walks and plain laws. No condition. -/
import Derived.Test.YtjgldeeianionaaGreatV30
set_option maxHeartbeats 4000000
set_option maxRecDepth 100000
set_option linter.unusedSimpArgs false
set_option linter.unusedVariables false
namespace Go.Proofs.YtjgldeeianionaaGreat
open Go.RowKit
section
attribute [local go_sem] Oper.semAt_some
structure Ver where
 found:List Int
 ans:Nat
 proof:List Br
def provedB (c:Cs)(l:List Prb)(a b:Nat)(s fs:List Nat)(n:Nat)(pf:List Br):Bool:=match afterC c l s fs with
 |none=>n==0&&pf.length==0
 |some d=>if n=0 then(refutedB d d.parts.length (fun _ _=>0) pf).isSome else if n=1∨n=2 then(refutedB d d.parts.length (beginD a b (n==2)) pf).isSome else false
theorem open_two {d:Cs}(h:checkCase d=0){a b:Nat}(ha:a<d.parts.length)(hb:b<d.parts.length):openErr d [(a:Int),(b:Int)]=0:=by
 unfold openErr;rw[if_pos h,if_pos]
 simp[inB];omega
theorem open_none {d:Cs}(h:checkCase d=0):openErr d []=0:=by simp[openErr,h]
section
variable {t:Nat}{c:Cs}{pa:Option Addr}{pc:Nat}{l:List Prb}{qa:Option Addr}{qc:Nat}
theorem proved_any (hsm:c.Small)(hpr:probesErr c l=0)(a b:Nat)(ha:a<c.parts.length)(hb:b<c.parts.length)(sa:Option Addr)(s:List Nat)(sc:Nat)(fa:Option Addr)(fs:List Nat)(fc:Nat)(n:Nat)(hn:n<256)(ra:Option Addr)(pf:List Br)(rc:Nat)(hll:pf.length≤1000000)(hls:∀z∈pf,z.Small)(hrc:pf.length≤rc)
 (w:World) (h:LabAt w t c pa pc l qa qc) (hS:Ints w sa (natInts s)) (hF:Ints w fa (natInts fs)) (hP:BrsAt w ra pf) (hsl:s.length≤1000) (hff:FoundFor c l s fs):
 Calls Tryz.prog 117 #[.pointer (some ⟨t,0,none⟩),.int .i64 a,.int .i64 b,.slice sa s.length sc,.agg #[.slice fa fs.length fc,.int .u8 n,.slice ra pf.length rc]] w fun e w'=>e = .returned (.bool (provedB c l a b s fs n pf))∧Below w.heap.size w w':=by
 obtain⟨w1,hw1⟩:=zx (w.alloc (.cells #[.slice fa fs.length fc,.int .u8 n,.slice ra pf.length rc] 102));have hB1:Below w.heap.size w w1:=by rw[←hw1];go_grown
 have b1:Box w1 w.heap.size #[.slice fa fs.length fc,.int .u8 n,.slice ra pf.length rc] 102:=by rw[←hw1];exact Box.new _ _ _
 have HA:=zh (after_all hsm hpr sa s sc fa fs fc w1 (h.below hB1) (hS.below hB1) (hF.below hB1) hsl hff.1 hff.2);have e1:=b1.cell;have HW:=zh hw1;have HB1:=zh hB1;have HX:=zh b1;have HPR:=zh hpr;have HP:=zh hP;have HLS:=zh hls;have hn0:(0:Int)≤(n:Int):=by omega
 have hn2:(n:Int)<256:=by omega
 clear hw1 hB1 b1 h hS hF hff hpr hP hls
 go_enter Tryz.func117,Tryz.ntmps117
 go_upto_region 1 with fail
 simp only[HW.out]
 go_wp2_with fail
 refine zM HA ?_;rintro e w2 hpost;obtain⟨hb2,(⟨ho,rfl⟩|⟨d,ba,pc',ho,rfl,hpt⟩)⟩:=hpost.some_
 ·obtain⟨w3,hw3⟩:=zx (w2.alloc (.cells #[.string ⟨#[]⟩,.int .i64 0,.int .i64 0,.slice none 0 0] 24));have hB3:Below w2.heap.size w2 w3:=by rw[←hw3];go_grown
  have HB:=zh (HB1.out.trans ((hb2.trans (hB3.mono hb2.size)).mono HB1.out.size));have HX3:=zh ((HX.out.below' hb2).below' hB3);have HW3:=zh hw3;have HFE:=zh (show provedB c l a b s fs n pf=(n==0&&pf.length==0) by simp[provedB,ho]);clear hb2 ho hpost hB3 hw3 e1;have e1:=HX3.out.cell
  go_upto_region 2 with fail
  simp only[HW3.out]
  by_cases h0:n=0
  ·subst h0
   by_cases hp0:pf.length=0
   ·have hpb:((pf.length:Int)==0)=true:=beq_iff_eq.2 zO;have HFB:=zh (show provedB c l a b s fs 0 pf=true by rw[HFE.out];simp[hp0]);clear hp0
    go_wp2_with fail
    go_ret
    exact⟨by rw[HFB.out];first|rfl|simp,HB.out⟩
   ·have hpb:((pf.length:Int)==0)=false:=beq_eq_false_iff_ne.2 zO;have HFB:=zh (show provedB c l a b s fs 0 pf=false by rw[HFE.out];simp[hp0]);clear hp0
    go_wp2_with fail
    go_ret
    exact⟨by rw[HFB.out];first|rfl|simp,HB.out⟩
  ·have hnb:((n:Int)==0)=false:=by simp;omega
   have HFB:=zh (show provedB c l a b s fs n pf=false by rw[HFE.out];simp[h0]);clear h0
   go_wp2_with fail
   go_ret
   exact⟨by rw[HFB.out];first|rfl|simp,HB.out⟩
 have hao:=after_ok HPR.out ho;obtain⟨w3,hw3⟩:=zx (w2.alloc (.cells #[.string d.ware,.int .i64 d.limit,.int .i64 d.by_,.slice ba d.parts.length pc'] 24));have hB3:Below w2.heap.size w2 w3:=by rw[←hw3];go_grown
 have HB3:=zh (HB1.out.trans ((hb2.trans (hB3.mono hb2.size)).mono HB1.out.size));have HX3:=zh ((HX.out.below' hb2).below' hB3);have HG3:Hid (Box w3 w2.heap.size #[.string d.ware,.int .i64 d.limit,.int .i64 d.by_,.slice ba d.parts.length pc'] 24):=zh (by rw[←hw3];exact Box.new _ _ _);have HW3:=zh hw3;have HPT:=zh (hpt.below hB3).at_;have HO:=zh ho;have HBR:=zh (HP.out.below HB3.out);have hln:=hao.len;have HCK:=zh hao.chk;have hoe:=open_two hao.chk (a:=a) (b:=b) zO zO;have HOE:=zh hoe;clear hb2 ho hpost hB3 hw3 e1 hao hpt hoe hln;have e1:=HX3.out.cell;have eG:=HG3.out.cell
 go_upto_region 2 with fail
 simp only[HW3.out]
 by_cases h0:n=0
 ·subst h0;have hcn:=checkNone_any d (small_of HCK.out) ba pc' pf hll HLS.out ra rc w3 HPT.out HBR.out hrc;rw[open_none HCK.out] at hcn;have HCN:=zh hcn;obtain⟨r,hr⟩:=zx (((0:Int)==0&&(refutedB d d.parts.length (fun _ _=>0) pf).isSome));rw[hr] at HCN;have HFB:=zh (show provedB c l a b s fs 0 pf=r by rw[←hr];simp[provedB,HO.out]);clear hcn hr
  go_wp2_with fail
  refine zM HCN ?_;rintro e w4 ⟨hb4,rfl⟩;have HB:=zh (HB3.out.trans (hb4.mono HB3.out.size));clear hb4 e1 eG;cases r
  ·go_wp2_with fail
   go_ret
   exact⟨by rw[HFB.out];first|rfl|simp,HB.out⟩
  ·go_wp2_with fail
   go_ret
   exact⟨by rw[HFB.out];first|rfl|simp,HB.out⟩
 by_cases h12:n=1∨n=2
 ·rcases h12 with rfl|rfl
  ·have hcr:=checkRefute_any d (small_of HCK.out) ba pc' a b false pf hll HLS.out ra rc w3 HPT.out HBR.out hrc;rw[HOE.out] at hcr;have HCN:=zh hcr;clear hcr;simp only[Int.toNat_natCast] at HCN;obtain⟨r,hr⟩:=zx (((0:Int)==0&&(refutedB d d.parts.length (beginD a b false) pf).isSome));rw[hr] at HCN;have HFB:=zh (show provedB c l a b s fs 1 pf=r by rw[←hr];simp[provedB,HO.out]);clear hr h0
   go_wp2_with fail
   refine zM HCN ?_;rintro e w4 ⟨hb4,rfl⟩;have HB:=zh (HB3.out.trans (hb4.mono HB3.out.size));clear hb4 e1 eG;cases r
   ·go_wp2_with fail
    go_ret
    exact⟨by rw[HFB.out];first|rfl|simp,HB.out⟩
   ·go_wp2_with fail
    go_ret
    exact⟨by rw[HFB.out];first|rfl|simp,HB.out⟩
  ·have hcr:=checkRefute_any d (small_of HCK.out) ba pc' a b true pf hll HLS.out ra rc w3 HPT.out HBR.out hrc;rw[HOE.out] at hcr;have HCN:=zh hcr;clear hcr;simp only[Int.toNat_natCast] at HCN;obtain⟨r,hr⟩:=zx (((0:Int)==0&&(refutedB d d.parts.length (beginD a b true) pf).isSome));rw[hr] at HCN;have HFB:=zh (show provedB c l a b s fs 2 pf=r by rw[←hr];simp[provedB,HO.out]);clear hr h0
   go_wp2_with fail
   refine zM HCN ?_;rintro e w4 ⟨hb4,rfl⟩;have HB:=zh (HB3.out.trans (hb4.mono HB3.out.size));clear hb4 e1 eG;cases r
   ·go_wp2_with fail
    go_ret
    exact⟨by rw[HFB.out];first|rfl|simp,HB.out⟩
   ·go_wp2_with fail
    go_ret
    exact⟨by rw[HFB.out];first|rfl|simp,HB.out⟩
 ·have hnb0:((n:Int)==0)=false:=by simp;omega
  have hnb1:((n:Int)==1)=false:=by simp;omega
  have hnb2:((n:Int)==2)=false:=by simp;omega
  have HFB:=zh (show provedB c l a b s fs n pf=false by simp[provedB,HO.out,h0,h12]);have HB:=HB3;clear h0 h12
  go_wp2_with fail
  go_ret
  exact⟨by rw[HFB.out];first|rfl|simp,HB.out⟩
end
section
variable {t:Nat}{c:Cs}{pa:Option Addr}{pc:Nat}{l:List Prb}{qa:Option Addr}{qc:Nat}
theorem after1_arg (hpr:probesErr c l=0)(g1 g2:Nat)(sa:Option Addr)(S:List Int)(sc:Nat)(fa:Option Addr)(F:List Int)(fc:Nat)(w:World)(h:LabAt w t c pa pc l qa qc)(hS:Ints w sa S)(hF:Ints w fa F)(hSl:S.length≤1000000)(hFl:F.length≤1000000)
 (h1:Box w g1 #[.slice sa S.length sc] 26) (h2:Box w g2 #[.slice fa F.length fc] 26):
 Calls Tryz.prog 59 #[.pointer (some ⟨t,0,none⟩),.pointer (some ⟨g1,0,none⟩),.pointer (some ⟨g2,0,none⟩)] w (NeedPost (foundB c l S F) w):=by
 have HF:=zh (found_any hpr sa S sc fa F fc w h hS hF hSl hFl);have e0:=h1.cell;have e1:=h2.cell;generalize foundB c l S F=r at *;clear hpr h hS hF h1 h2
 go_enter Tryz.func59,Tryz.ntmps59
 go_wp2_with fail
 refine zM HF ?_;rintro e w2 ⟨hb2,(⟨hok,rfl⟩|⟨hok,rfl⟩)⟩
 ·go_wp2_with fail
  go_end0
  exact needPost_ok hok hb2
 ·go_wp2_with fail
  exact⟨rfl,needPost_no zS hb2⟩
theorem can1_arg (hpr:probesErr c l=0)(g1 g2:Nat)(sa:Option Addr)(S:List Int)(sc:Nat)(fa:Option Addr)(F:List Int)(fc:Nat)(w:World)(h:LabAt w t c pa pc l qa qc)(hS:Ints w sa S)(hF:Ints w fa F)(hSl:S.length≤1000000)(hFl:F.length≤1000000)
 (h1:Box w g1 #[.slice sa S.length sc] 26) (h2:Box w g2 #[.slice fa F.length fc] 26):
 Calls Tryz.prog 65 #[.pointer (some ⟨t,0,none⟩),.pointer (some ⟨g1,0,none⟩),.pointer (some ⟨g2,0,none⟩)] w (NeedPost (foundB c l S F) w):=by
 have HF:=zh (found_any hpr sa S sc fa F fc w h hS hF hSl hFl);have e0:=h1.cell;have e1:=h2.cell;generalize foundB c l S F=r at *;clear hpr h hS hF h1 h2
 go_enter Tryz.func65,Tryz.ntmps65
 go_wp2_with fail
 refine zM HF ?_;rintro e w2 ⟨hb2,(⟨hok,rfl⟩|⟨hok,rfl⟩)⟩
 ·go_wp2_with fail
  go_end0
  exact needPost_ok hok hb2
 ·go_wp2_with fail
  exact⟨rfl,needPost_no zS hb2⟩
theorem settled1_arg (hpr:probesErr c l=0)(g1 g2:Nat)(sa:Option Addr)(S:List Int)(sc:Nat)(fa:Option Addr)(F:List Int)(fc:Nat)(w:World)(h:LabAt w t c pa pc l qa qc)(hS:Ints w sa S)(hF:Ints w fa F)(hSl:S.length≤1000000)(hFl:F.length≤1000000)
 (h1:Box w g1 #[.slice sa S.length sc] 26) (h2:Box w g2 #[.slice fa F.length fc] 26):
 Calls Tryz.prog 69 #[.pointer (some ⟨t,0,none⟩),.pointer (some ⟨g1,0,none⟩),.pointer (some ⟨g2,0,none⟩)] w (NeedPost (foundB c l S F) w):=by
 have HF:=zh (found_any hpr sa S sc fa F fc w h hS hF hSl hFl);have e0:=h1.cell;have e1:=h2.cell;generalize foundB c l S F=r at *;clear hpr h hS hF h1 h2
 go_enter Tryz.func69,Tryz.ntmps69
 go_wp2_with fail
 refine zM HF ?_;rintro e w2 ⟨hb2,(⟨hok,rfl⟩|⟨hok,rfl⟩)⟩
 ·go_wp2_with fail
  go_end0
  exact needPost_ok hok hb2
 ·go_wp2_with fail
  exact⟨rfl,needPost_no zS hb2⟩
theorem cheapest1_arg (hsm:c.Small)(g1 g2:Nat)(a b:Int)(w:World)(h:LabAt w t c pa pc l qa qc)(h1:Box w g1 #[.int .i64 a] 3)(h2:Box w g2 #[.int .i64 b] 3):
 Calls Tryz.prog 78 #[.pointer (some ⟨t,0,none⟩),.pointer (some ⟨g1,0,none⟩),.pointer (some ⟨g2,0,none⟩)] w (NeedPost (twoB c.parts.length a b) w):=by
 have HF:=zh (two_any (by have:=hsm.1;omega) a b w h);have e0:=h1.cell;have e1:=h2.cell;generalize twoB c.parts.length a b=r at *;clear h h1 h2
 go_enter Tryz.func78,Tryz.ntmps78
 go_wp2_with fail
 refine zM HF ?_;rintro e w2 ⟨hb2,(⟨hok,rfl⟩|⟨hok,rfl⟩)⟩
 ·go_wp2_with fail
  go_end0
  exact needPost_ok hok hb2
 ·go_wp2_with fail
  exact⟨rfl,needPost_no zS hb2⟩
theorem proof1_arg (hsm:c.Small)(g1 g2:Nat)(a b:Int)(w:World)(h:LabAt w t c pa pc l qa qc)(h1:Box w g1 #[.int .i64 a] 3)(h2:Box w g2 #[.int .i64 b] 3):
 Calls Tryz.prog 83 #[.pointer (some ⟨t,0,none⟩),.pointer (some ⟨g1,0,none⟩),.pointer (some ⟨g2,0,none⟩)] w (NeedPost (twoB c.parts.length a b) w):=by
 have HF:=zh (two_any (by have:=hsm.1;omega) a b w h);have e0:=h1.cell;have e1:=h2.cell;generalize twoB c.parts.length a b=r at *;clear h h1 h2
 go_enter Tryz.func83,Tryz.ntmps83
 go_wp2_with fail
 refine zM HF ?_;rintro e w2 ⟨hb2,(⟨hok,rfl⟩|⟨hok,rfl⟩)⟩
 ·go_wp2_with fail
  go_end0
  exact needPost_ok hok hb2
 ·go_wp2_with fail
  exact⟨rfl,needPost_no zS hb2⟩
theorem checkProof1_arg (hsm:c.Small)(g1 g2:Nat)(a b:Int)(w:World)(h:LabAt w t c pa pc l qa qc)(h1:Box w g1 #[.int .i64 a] 3)(h2:Box w g2 #[.int .i64 b] 3):
 Calls Tryz.prog 119 #[.pointer (some ⟨t,0,none⟩),.pointer (some ⟨g1,0,none⟩),.pointer (some ⟨g2,0,none⟩)] w (NeedPost (twoB c.parts.length a b) w):=by
 have HF:=zh (two_any (by have:=hsm.1;omega) a b w h);have e0:=h1.cell;have e1:=h2.cell;generalize twoB c.parts.length a b=r at *;clear h h1 h2
 go_enter Tryz.func119,Tryz.ntmps119
 go_wp2_with fail
 refine zM HF ?_;rintro e w2 ⟨hb2,(⟨hok,rfl⟩|⟨hok,rfl⟩)⟩
 ·go_wp2_with fail
  go_end0
  exact needPost_ok hok hb2
 ·go_wp2_with fail
  exact⟨rfl,needPost_no zS hb2⟩
theorem checkDoubt1_arg (hsm:c.Small)(g1 g2:Nat)(a b:Int)(w:World)(h:LabAt w t c pa pc l qa qc)(h1:Box w g1 #[.int .i64 a] 3)(h2:Box w g2 #[.int .i64 b] 3):
 Calls Tryz.prog 127 #[.pointer (some ⟨t,0,none⟩),.pointer (some ⟨g1,0,none⟩),.pointer (some ⟨g2,0,none⟩)] w (NeedPost (twoB c.parts.length a b) w):=by
 have HF:=zh (two_any (by have:=hsm.1;omega) a b w h);have e0:=h1.cell;have e1:=h2.cell;generalize twoB c.parts.length a b=r at *;clear h h1 h2
 go_enter Tryz.func127,Tryz.ntmps127
 go_wp2_with fail
 refine zM HF ?_;rintro e w2 ⟨hb2,(⟨hok,rfl⟩|⟨hok,rfl⟩)⟩
 ·go_wp2_with fail
  go_end0
  exact needPost_ok hok hb2
 ·go_wp2_with fail
  exact⟨rfl,needPost_no zS hb2⟩
theorem decides1_arg (hsm:c.Small)(hpr:probesErr c l=0)(g1 g2 g3:Nat)(a b:Int)(sa:Option Addr)(S:List Int)(sc:Nat)(w:World)(h:LabAt w t c pa pc l qa qc)(hS:Ints w sa S)(hSl:S.length≤1000000)(h1:Box w g1 #[.int .i64 a] 3)(h2:Box w g2 #[.int .i64 b] 3)(h3:Box w g3 #[.slice sa S.length sc] 26):
 Calls Tryz.prog 101 #[.pointer (some ⟨t,0,none⟩),.pointer (some ⟨g1,0,none⟩),.pointer (some ⟨g2,0,none⟩),.pointer (some ⟨g3,0,none⟩)] w (NeedPost (twoB c.parts.length a b&&setB l.length S) w):=by
 have HF:=zh (two_any (by have:=hsm.1;omega) a b w h);have HG:=zh (fun W (hW:Below w.heap.size w W)=>set_any (by have:=(probes_ok hpr).2.1;omega) sa S sc W (h.below hW) (hS.below hW) hSl);have HE:=zh (fun W (hW:Below w.heap.size w W)=>And.intro (h1.below' hW).cell (And.intro (h2.below' hW).cell (h3.below' hW).cell));have e0:=h1.cell;have e1:=h2.cell;have e2:=h3.cell;generalize twoB c.parts.length a b=r at *;generalize setB l.length S=r2 at *;clear hpr h hS h1 h2 h3
 go_enter Tryz.func101,Tryz.ntmps101
 go_wp2_with fail
 refine zM HF ?_;rintro e w2 ⟨hb2,(⟨hok,rfl⟩|⟨hok,rfl⟩)⟩;rotate_left
 ·go_wp2_with fail
  exact⟨rfl,needPost_no zS hb2⟩
 subst hok;have HB2:=zh hb2;have HG2:=zh (HG.out w2 hb2);obtain⟨e0,e1,e2⟩:=HE.out w2 hb2;clear hb2
 go_wp2_with fail
 refine zM HG2 ?_;rintro e w3 ⟨hb3,(⟨hok,rfl⟩|⟨hok,rfl⟩)⟩
 ·have HB3:=zh (HB2.out.trans (hb3.mono HB2.out.size));clear hb3
  go_wp2_with fail
  go_end0
  exact needPost_ok (by simpa using hok) HB3.out
 ·have HB3:=zh (HB2.out.trans (hb3.mono HB2.out.size));clear hb3
  go_wp2_with fail
  exact⟨rfl,needPost_no zS HB3.out⟩
theorem checkVerdicts1_arg (hsm:c.Small)(hpr:probesErr c l=0)(g1 g2 g3:Nat)(a b:Int)(sa:Option Addr)(S:List Int)(sc:Nat)(w:World)(h:LabAt w t c pa pc l qa qc)(hS:Ints w sa S)(hSl:S.length≤1000000)(h1:Box w g1 #[.int .i64 a] 3)(h2:Box w g2 #[.int .i64 b] 3)(h3:Box w g3 #[.slice sa S.length sc] 26):
 Calls Tryz.prog 113 #[.pointer (some ⟨t,0,none⟩),.pointer (some ⟨g1,0,none⟩),.pointer (some ⟨g2,0,none⟩),.pointer (some ⟨g3,0,none⟩)] w (NeedPost (twoB c.parts.length a b&&setB l.length S) w):=by
 have HF:=zh (two_any (by have:=hsm.1;omega) a b w h);have HG:=zh (fun W (hW:Below w.heap.size w W)=>set_any (by have:=(probes_ok hpr).2.1;omega) sa S sc W (h.below hW) (hS.below hW) hSl);have HE:=zh (fun W (hW:Below w.heap.size w W)=>And.intro (h1.below' hW).cell (And.intro (h2.below' hW).cell (h3.below' hW).cell));have e0:=h1.cell;have e1:=h2.cell;have e2:=h3.cell;generalize twoB c.parts.length a b=r at *;generalize setB l.length S=r2 at *;clear hpr h hS h1 h2 h3
 go_enter Tryz.func113,Tryz.ntmps113
 go_wp2_with fail
 refine zM HF ?_;rintro e w2 ⟨hb2,(⟨hok,rfl⟩|⟨hok,rfl⟩)⟩;rotate_left
 ·go_wp2_with fail
  exact⟨rfl,needPost_no zS hb2⟩
 subst hok;have HB2:=zh hb2;have HG2:=zh (HG.out w2 hb2);obtain⟨e0,e1,e2⟩:=HE.out w2 hb2;clear hb2
 go_wp2_with fail
 refine zM HG2 ?_;rintro e w3 ⟨hb3,(⟨hok,rfl⟩|⟨hok,rfl⟩)⟩
 ·have HB3:=zh (HB2.out.trans (hb3.mono HB2.out.size));clear hb3
  go_wp2_with fail
  go_end0
  exact needPost_ok (by simpa using hok) HB3.out
 ·have HB3:=zh (HB2.out.trans (hb3.mono HB2.out.size));clear hb3
  go_wp2_with fail
  exact⟨rfl,needPost_no zS HB3.out⟩
theorem worth1_arg (hsm:c.Small)(hpr:probesErr c l=0)(g1 g2 g3:Nat)(a b p:Int)(w:World)(h:LabAt w t c pa pc l qa qc)(h1:Box w g1 #[.int .i64 a] 3)(h2:Box w g2 #[.int .i64 b] 3)(h3:Box w g3 #[.int .i64 p] 3):
 Calls Tryz.prog 144 #[.pointer (some ⟨t,0,none⟩),.pointer (some ⟨g1,0,none⟩),.pointer (some ⟨g2,0,none⟩),.pointer (some ⟨g3,0,none⟩)] w (NeedPost (twoB c.parts.length a b&&setB l.length [p]) w):=by
 have HF:=zh (two_any (by have:=hsm.1;omega) a b w h);have HG:=zh (fun W (hW:Below w.heap.size w W)=>by
  have hb:Below W.heap.size W (W.alloc (.cells #[.int .i64 p] 3)):=by go_grown
  have:=set_any (by have:=(probes_ok hpr).2.1;omega) (some ⟨W.heap.size,0,none⟩) [p] 1 (W.alloc (.cells #[.int .i64 p] 3)) (h.below (hW.trans (hb.mono hW.size))) (one_row (Box.new _ _ _)) zS;simp only[List.length_cons,List.length_nil,Nat.zero_add] at this;exact And.intro this hb)
 have HE:=zh (fun W (hW:Below w.heap.size w W)=>And.intro (h1.below' hW).cell (And.intro (h2.below' hW).cell (h3.below' hW).cell));have e0:=h1.cell;have e1:=h2.cell;have e2:=h3.cell;generalize twoB c.parts.length a b=r at *;generalize setB l.length [p]=r2 at *;clear hpr h h1 h2 h3
 go_enter Tryz.func144,Tryz.ntmps144
 go_wp2_with fail
 refine zM HF ?_;rintro e w2 ⟨hb2,(⟨hok,rfl⟩|⟨hok,rfl⟩)⟩;rotate_left
 ·go_wp2_with fail
  exact⟨rfl,needPost_no zS hb2⟩
 subst hok;have HB2:=zh hb2;have HG2:=zh (HG.out w2 hb2).1;have HBA:=zh (HG.out w2 hb2).2;obtain⟨e0,e1,e2⟩:=HE.out w2 hb2;clear hb2
 go_wp2_with fail
 refine zM HG2 ?_;rintro e w3 ⟨hb3,(⟨hok,rfl⟩|⟨hok,rfl⟩)⟩
 ·have HB3:=zh ((HB2.out.trans (HBA.out.mono HB2.out.size)).trans (hb3.mono (Nat.le_trans HB2.out.size HBA.out.size)));clear hb3
  go_wp2_with fail
  go_end0
  exact needPost_ok (by simpa using hok) HB3.out
 ·have HB3:=zh ((HB2.out.trans (HBA.out.mono HB2.out.size)).trans (hb3.mono (Nat.le_trans HB2.out.size HBA.out.size)));clear hb3
  go_wp2_with fail
  exact⟨rfl,needPost_no zS HB3.out⟩
end
def xErr (c:Cs)(l:List Prb)(okA:Bool):Int:=if probesErr c l≠0 then probesErr c l else if okA then(if(allR c).isEmpty then 61 else 0) else 1
theorem xErr_ok {c:Cs}{l:List Prb}{okA:Bool}(h1:probesErr c l=0)(h2:okA=true)(h3:(allR c).isEmpty=false):xErr c l okA=0:=by simp[xErr,h1,h2,h3]
theorem ask_cases {c:Cs}{l:List Prb}{okA:Bool}{Q:Int→World→Prop}{w w':World}{e:Ending}(h:AskPost c l okA Q w e w'):
 ∃er:Int,e = .returned (.int .i64 er)∧((xErr c l okA≠0∧er=xErr c l okA∧Below w.heap.size w w')∨(xErr c l okA=0∧Q er w')):=by
 obtain⟨er,rfl,h⟩:=h;refine⟨er,rfl,?_⟩
 rcases h with ⟨h1,rfl,hb⟩|⟨h1,h2,rfl,hb⟩|⟨h1,h2,h3,rfl,hb⟩|⟨h1,h2,h3,hq⟩
 ·exact .inl ⟨by simp[xErr,h1],by simp[xErr,h1],hb⟩
 ·exact .inl ⟨by simp[xErr,h1,h2],by simp[xErr,h1,h2],hb⟩
 ·exact .inl ⟨by simp[xErr,h1,h2,h3],by simp[xErr,h1,h2,h3],hb⟩
 ·exact .inr ⟨xErr_ok h1 h2 h3,hq⟩
section
variable {t:Nat}{c:Cs}{pa:Option Addr}{pc:Nat}{l:List Prb}{qa:Option Addr}{qc:Nat}
theorem can2_any (hsm:c.Small)(hpr:probesErr c l=0)(g1 g2 g3:Nat)(sa:Option Addr)(s:List Nat)(sc:Nat)(fa:Option Addr)(fs:List Nat)(fc:Nat)(hs:∀v∈s,v<l.length)(hff:FoundFor c l s fs)(hsl:s.length≤1000)(w:World)(h:LabAt w t c pa pc l qa qc)(hS:Ints w sa (natInts s))(hF:Ints w fa (natInts fs))
 (h1:Box w g1 #[.slice sa s.length sc] 26) (h2:Box w g2 #[.slice fa fs.length fc] 26) (h3:Box w g3 #[.bool false] 4):
 Calls Tryz.prog 66 #[.pointer (some ⟨t,0,none⟩),.pointer (some ⟨g1,0,none⟩),.pointer (some ⟨g2,0,none⟩),.pointer (some ⟨g3,0,none⟩)] w fun e w'=>e = .returned (.int .i64 0)∧Keep (fun k=>k≠g3) w w'∧Box w' g3 #[.bool (canC c l s fs).isSome] 4:=by
 have HC:=zh (can_any hsm hpr sa s sc fa fs fc w h hS hF hsl hff.1 hff.2);have e1:=h1.cell;have e2:=h2.cell;have H3:=zh h3;clear hpr h hS hF h1 h2 h3 hs hff
 go_enter Tryz.func66,Tryz.ntmps66
 go_wp2_with fail
 refine zM HC ?_;rintro e w2 ⟨hb2,(⟨ho,u1,u2,u3,u4,u5,u6,rfl⟩|⟨d,ba,pc',ho,rfl,-⟩)⟩
 ·have HX:=zh (H3.out.below' hb2);have HB:=zh hb2;have HO:=zh ho;obtain⟨z1,z2⟩:=HX.out.rules;clear hb2 ho e1 e2
  go_wp2_with fail
  go_ret
  exact⟨rfl,(Keep.of_below' HB.out).setCell (.inl zS) _,by rw[HO.out];exact HX.out.set_ 0 _⟩
 ·have HX:=zh (H3.out.below' hb2);have HB:=zh hb2;have HO:=zh ho;obtain⟨z1,z2⟩:=HX.out.rules;clear hb2 ho e1 e2
  go_wp2_with fail
  go_ret
  exact⟨rfl,(Keep.of_below' HB.out).setCell (.inl zS) _,by rw[HO.out];exact HX.out.set_ 0 _⟩
end
def BoolE (b:Bool)(er:Int)(w:World)(e:Ending)(w':World):Prop:=Below w.heap.size w w'∧e = .returned (.tuple #[.bool (er==0&&b),.int .i64 er])
theorem canX_any (c:Cs)(hsm:c.Small)(pa:Option Addr)(pc:Nat)(l:List Prb)(qa:Option Addr)(qc:Nat)(sa:Option Addr)(S:List Int)(sc:Nat)(fa:Option Addr)(F:List Int)(fc:Nat)(hSl:S.length≤1000)(hFl:F.length≤1000)(w:World)(hp:PartsAt w pa c.parts)(hq:PrbsAt w qa l)(hS:Ints w sa S)(hF:Ints w fa F):
 Calls Tryz.prog 18 #[.agg #[.string c.ware,.int .i64 c.limit,.int .i64 c.by_,.slice pa c.parts.length pc],.slice qa l.length qc,.slice sa S.length sc,.slice fa F.length fc] w (BoolE (canC c l (nats S) (nats F)).isSome (xErr c l (foundB c l S F)) w):=by
 have hmf:=run_mf Tryz.prog;obtain⟨w4,hw4⟩:=zx ((((w.alloc (.cells #[.string c.ware,.int .i64 c.limit,.int .i64 c.by_,.slice pa c.parts.length pc] 24)).alloc (.cells #[.slice sa S.length sc] 26)).alloc (.cells #[.slice fa F.length fc] 26)).alloc (.cells #[.bool false] 4));have hB4:Below w.heap.size w w4:=by rw[←hw4];go_grown
 have b0:Box w4 w.heap.size (csCells c pa pc) 24:=by rw[←hw4];exact(((Box.new _ _ _).alloc _).alloc _).alloc _
 have b1:Box w4 (w.heap.size+1) #[.slice sa S.length sc] 26:=by rw[←hw4];exact((Box.new' zS).alloc _).alloc _
 have b2:Box w4 (w.heap.size+2) #[.slice fa F.length fc] 26:=by rw[←hw4];exact(Box.new' zS).alloc _
 have b3:Box w4 (w.heap.size+3) #[.bool false] 4:=by rw[←hw4];exact Box.new' zS
 have hS4:=hS.below hB4;have hF4:=hF.below hB4;have hask:=asked9_any c hsm pa pc l qa qc 65 #[.pointer (some ⟨w.heap.size+1,0,none⟩),.pointer (some ⟨w.heap.size+2,0,none⟩)] 66 #[.pointer (some ⟨w.heap.size+1,0,none⟩),.pointer (some ⟨w.heap.size+2,0,none⟩),.pointer (some ⟨w.heap.size+3,0,none⟩)] (foundB c l S F)
  (fun er W'=>er=0∧Box W' (w.heap.size+3) #[.bool (canC c l (nats S) (nats F)).isSome] 4∧Below w.heap.size w W') w4 (hp.below hB4) (hq.below hB4)
  (fun hpr=>⟨fun args W=>by simp[go_sem],fun W t hW ht hlab=>can1_arg hpr _ _ sa S sc fa F fc W hlab (hS4.below hW) (hF4.below hW) zO zO (b1.below' hW) (b2.below' hW)⟩)
  (fun hpr hok _=>⟨fun args W=>by simp[go_sem],fun W t hW ht hlab=>by
   obtain⟨e1,e2,hsv,hff⟩:=found_nats hok;have hl1:(nats S).length=S.length:=by simp[nats]
   have hl2:(nats F).length=F.length:=by simp[nats]
   refine(can2_any hsm hpr _ _ _ sa (nats S) sc fa (nats F) fc hsv hff zO W hlab (by rw[←e1];exact hS4.below hW) (by rw[←e2];exact hF4.below hW) (by rw[hl1];exact b1.below' hW) (by rw[hl2];exact b2.below' hW) (b3.below' hW)).mono ?_;rintro e W' ⟨rfl,hk,hb⟩;exact⟨0,rfl,rfl,hb,hB4.trans (hW.mono hB4.size) |>.trans ((hk.mono fun k (hk:k<w.heap.size)=>by omega).below (Nat.le_trans hB4.size hW.size))⟩⟩)
 have HA:=zh hask;have HW:=zh hw4;have HB4:=zh hB4;have H3:=zh b3;have e0:=zC (b0);obtain⟨er0,her⟩:=zx (xErr c l (foundB c l S F));have HER:=zh her;clear hask hw4 hB4 b0 b1 b2 b3 hp hq hS hF hS4 hF4 her
 go_enter Tryz.func18,Tryz.ntmps18
 go_upto_region 2 with fail
 simp only[HW.out]
 go_wp2_with fail
 refine zM HA ?_;rintro e w5 hpost;obtain⟨er,rfl,(⟨h1,rfl,hb5⟩|⟨h1,rfl,hbx,hb5⟩)⟩:=ask_cases hpost
 ·have HB5:=zh (HB4.out.trans (hb5.mono HB4.out.size));have e3:=(H3.out.below' hb5).cell;have H1:=zh h1;clear hpost hb5 e0 h1
  go_wp2_with fail
  go_ret2
  refine⟨HB5.out,?_⟩;rw[show(xErr c l (foundB c l S F)==0)=false from beq_eq_false_iff_ne.2 H1.out]
  rfl
 ·have HB5:=zh hb5;have e3:=hbx.cell;have H1:=zh h1;clear hpost hb5 e0 h1
  go_wp2_with fail
  go_ret2
  refine⟨HB5.out,?_⟩;rw[H1.out]
  simp
theorem results_ctt {P:Program}{fn:Func}{t u x:Tmp}{ty:TypeId}(h:fn.results = #[.cell t ty,.tmp u,.tmp x]){tmps:Array Value}{w:World}{p:Addr}{v:Value}(hp:tmps.getD t undef = .pointer (some p))
 (hr:(loadVar ty p).run P w = .ok v w):(results fn tmps).run P w = .ok (.tuple #[v,tmps.getD u undef,tmps.getD x undef]) w:=by
 have hp':tmps[t]?.getD undef = .pointer (some p):=by simpa using hp
 simp[results,h,hp',asAddr,hr]
def AftCells (o:Option Cs)(B:Nat)(W:World)(cs:Array Value)(b:Bool):Prop:=
 (o=none∧b=false∧cs = #[.string ⟨#[]⟩,.int .i64 0,.int .i64 0,.slice none 0 0])∨∃d ba pc',o=some d∧b=true∧cs = #[.string d.ware,.int .i64 d.limit,.int .i64 d.by_,.slice ba d.parts.length pc']∧PartsHi B W ba d.parts
theorem AftCells.keep {o:Option Cs}{B:Nat}{W W':World}{cs:Array Value}{b:Bool}(h:AftCells o B W cs b)(hk:Keep (fun k=>B≤k) W W'):AftCells o B W' cs b:=by
 rcases h with h|⟨d,ba,pc',h1,h2,h3,h4⟩
 ·exact .inl h
 ·exact .inr ⟨d,ba,pc',h1,h2,h3,h4.keep hk⟩
theorem AftCells.mono {o:Option Cs}{B B':Nat}{W:World}{cs:Array Value}{b:Bool}(h:AftCells o B W cs b)(hB:B'≤B):AftCells o B' W cs b:=by
 rcases h with h|⟨d,ba,pc',h1,h2,h3,h4⟩
 ·exact .inl h
 ·exact .inr ⟨d,ba,pc',h1,h2,h3,h4.mono hB⟩
theorem AftCells.four {o:Option Cs}{B:Nat}{W:World}{cs:Array Value}{b:Bool}(h:AftCells o B W cs b):∃u1 u2 u3 u4 u5 u6,cs = #[.string u1,.int .i64 u2,.int .i64 u3,.slice u4 u5 u6]:=by
 rcases h with ⟨_,_,rfl⟩|⟨d,ba,pc',_,_,rfl,_⟩<;>exact⟨_,_,_,_,_,_,rfl⟩
section
variable {t:Nat}{c:Cs}{pa:Option Addr}{pc:Nat}{l:List Prb}{qa:Option Addr}{qc:Nat}
theorem after2_any (hsm:c.Small)(hpr:probesErr c l=0)(g1 g2 g3:Nat)(hg:g3+2≤t)(sa:Option Addr)(s:List Nat)(sc:Nat)(fa:Option Addr)(fs:List Nat)(fc:Nat)(hff:FoundFor c l s fs)(hsl:s.length≤1000)(w:World)(h:LabAt w t c pa pc l qa qc)(hS:Ints w sa (natInts s))(hF:Ints w fa (natInts fs))
 (h1:Box w g1 #[.slice sa s.length sc] 26) (h2:Box w g2 #[.slice fa fs.length fc] 26) (h3:Box w g3 #[.string ⟨#[]⟩,.int .i64 0,.int .i64 0,.slice none 0 0] 24) (h4:Box w (g3+1) #[.bool false] 4):
 Calls Tryz.prog 61 #[.pointer (some ⟨t,0,none⟩),.pointer (some ⟨g1,0,none⟩),.pointer (some ⟨g2,0,none⟩),.pointer (some ⟨g3,0,none⟩),.pointer (some ⟨g3+1,0,none⟩)] w fun e w'=>e = .returned (.int .i64 0)∧Keep (fun k=>k≠g3∧k≠g3+1) w w'∧∃cs b,Box w' g3 cs 24∧Box w' (g3+1) #[.bool b] 4∧AftCells (afterC c l s fs) t w' cs b:=by
 have htl:t<w.heap.size:=h.box.lt;have HC:=zh (after_all hsm hpr sa s sc fa fs fc w h hS hF hsl hff.1 hff.2);have e1:=h1.cell;have e2:=h2.cell;have H3:=zh h3;have H4:=zh h4;clear hpr h hS hF h1 h2 h3 h4 hff
 go_enter Tryz.func61,Tryz.ntmps61
 go_wp2_with fail
 refine zM HC ?_;rintro e w2 hpost;obtain⟨hb2,(⟨ho,rfl⟩|⟨d,ba,pc',ho,rfl,hpt⟩)⟩:=hpost.some_
 ·have HX:=zh (H3.out.below' hb2);have HY:=zh (H4.out.below' hb2);have HB:=zh hb2;have HO:=zh ho;obtain⟨z1,z2⟩:=HX.out.rules;obtain⟨y1,y2⟩:=HY.out.rules;clear hb2 ho hpost e1 e2
  go_wp2_with fail
  go_ret
  refine⟨rfl,?_,_,_,((((HX.out.set_ 0 _).set_ 1 _).set_ 2 _).set_ 3 _).far zS _,((((HY.out.far zS _).far zS _).far zS _).far zS _).set_ 0 _,.inl ⟨HO.out,rfl,rfl⟩⟩;exact(((((Keep.of_below' HB.out).setCell (.inl zS) _).setCell (.inl zS) _).setCell (.inl zS) _).setCell (.inl zS) _).setCell (.inl zS) _
 ·have HX:=zh (H3.out.below' hb2);have HY:=zh (H4.out.below' hb2);have HB:=zh hb2;have HO:=zh ho;have HPT:=zh (hpt.mono (Nat.le_of_lt htl));obtain⟨z1,z2⟩:=HX.out.rules;obtain⟨y1,y2⟩:=HY.out.rules;clear hb2 ho hpost hpt e1 e2
  go_wp2_with fail
  go_ret
  refine⟨rfl,?_,_,_,((((HX.out.set_ 0 _).set_ 1 _).set_ 2 _).set_ 3 _).far zS _,((((HY.out.far zS _).far zS _).far zS _).far zS _).set_ 0 _,.inr ⟨d,ba,pc',HO.out,rfl,rfl,?_⟩⟩
  ·exact(((((Keep.of_below' HB.out).setCell (.inl zS) _).setCell (.inl zS) _).setCell (.inl zS) _).setCell (.inl zS) _).setCell (.inl zS) _
  ·exact HPT.out.keep ((((((Keep.refl _ w2).setCell (.inl zT) _).setCell (.inl zT) _).setCell (.inl zT) _).setCell (.inl zT) _).setCell (.inl zT) _)
end
def AfterPost (o:Option Cs)(er:Int)(w:World)(e:Ending)(w':World):Prop:=
 Below w.heap.size w w'∧∃cs b,e = .returned (.tuple #[.agg cs,.bool b,.int .i64 er])∧AftCells (if er=0 then o else none) w.heap.size w' cs b
theorem afterX_any (c:Cs)(hsm:c.Small)(pa:Option Addr)(pc:Nat)(l:List Prb)(qa:Option Addr)(qc:Nat)(sa:Option Addr)(S:List Int)(sc:Nat)(fa:Option Addr)(F:List Int)(fc:Nat)(hSl:S.length≤1000)(hFl:F.length≤1000)(w:World)(hp:PartsAt w pa c.parts)(hq:PrbsAt w qa l)(hS:Ints w sa S)(hF:Ints w fa F):
 Calls Tryz.prog 16 #[.agg #[.string c.ware,.int .i64 c.limit,.int .i64 c.by_,.slice pa c.parts.length pc],.slice qa l.length qc,.slice sa S.length sc,.slice fa F.length fc] w (AfterPost (afterC c l (nats S) (nats F)) (xErr c l (foundB c l S F)) w):=by
 have hmf:=run_mf Tryz.prog;obtain⟨w4,hw4⟩:=zx ((((((w.alloc (.cells #[.string c.ware,.int .i64 c.limit,.int .i64 c.by_,.slice pa c.parts.length pc] 24)).alloc (.cells #[.slice sa S.length sc] 26)).alloc (.cells #[.slice fa F.length fc] 26)).alloc (.cells #[.string ⟨#[]⟩,.int .i64 0,.int .i64 0,.slice none 0 0] 24)).alloc (.cells #[.string ⟨#[]⟩,.int .i64 0,.int .i64 0,.slice none 0 0] 24)).alloc (.cells #[.bool false] 4));have hB4:Below w.heap.size w w4:=by rw[←hw4];go_grown
 have hs4:w4.heap.size=w.heap.size+6:=by rw[←hw4];simp
 have b0:Box w4 w.heap.size (csCells c pa pc) 24:=by rw[←hw4];exact(((((Box.new _ _ _).alloc _).alloc _).alloc _).alloc _).alloc _
 have b1:Box w4 (w.heap.size+1) #[.slice sa S.length sc] 26:=by rw[←hw4];exact((((Box.new' zS).alloc _).alloc _).alloc _).alloc _
 have b2:Box w4 (w.heap.size+2) #[.slice fa F.length fc] 26:=by rw[←hw4];exact(((Box.new' zS).alloc _).alloc _).alloc _
 have b3:Box w4 (w.heap.size+3) #[.string ⟨#[]⟩,.int .i64 0,.int .i64 0,.slice none 0 0] 24:=by rw[←hw4];exact((Box.new' zS).alloc _).alloc _
 have b4:Box w4 (w.heap.size+4) #[.string ⟨#[]⟩,.int .i64 0,.int .i64 0,.slice none 0 0] 24:=by rw[←hw4];exact(Box.new' zS).alloc _
 have b5:Box w4 (w.heap.size+5) #[.bool false] 4:=by rw[←hw4];exact Box.new' zS
 have hS4:=hS.below hB4;have hF4:=hF.below hB4;have hask:=asked9_any c hsm pa pc l qa qc 59 #[.pointer (some ⟨w.heap.size+1,0,none⟩),.pointer (some ⟨w.heap.size+2,0,none⟩)] 61 #[.pointer (some ⟨w.heap.size+1,0,none⟩),.pointer (some ⟨w.heap.size+2,0,none⟩),.pointer (some ⟨w.heap.size+4,0,none⟩),.pointer (some ⟨w.heap.size+5,0,none⟩)] (foundB c l S F)
  (fun er W'=>er=0∧Below w.heap.size w W'∧Box W' (w.heap.size+3) #[.string ⟨#[]⟩,.int .i64 0,.int .i64 0,.slice none 0 0] 24∧∃cs b,Box W' (w.heap.size+4) cs 24∧Box W' (w.heap.size+5) #[.bool b] 4∧AftCells (afterC c l (nats S) (nats F)) (w.heap.size+6) W' cs b) w4 (hp.below hB4) (hq.below hB4)
  (fun hpr=>⟨fun args W=>by simp[go_sem],fun W t hW ht hlab=>after1_arg hpr _ _ sa S sc fa F fc W hlab (hS4.below hW) (hF4.below hW) zO zO (b1.below' hW) (b2.below' hW)⟩)
  (fun hpr hok _=>⟨fun args W=>by simp[go_sem],fun W t hW ht hlab=>by
   obtain⟨e1,e2,hsv,hff⟩:=found_nats hok;have hl1:(nats S).length=S.length:=by simp[nats]
   have hl2:(nats F).length=F.length:=by simp[nats]
   refine(after2_any hsm hpr (w.heap.size+1) (w.heap.size+2) (w.heap.size+4) zO sa (nats S) sc fa (nats F) fc hff zO W hlab (by rw[←e1];exact hS4.below hW) (by rw[←e2];exact hF4.below hW) (by rw[hl1];exact b1.below' hW) (by rw[hl2];exact b2.below' hW) (b4.below' hW) (b5.below' hW)).mono ?_;rintro e W' ⟨rfl,hk,cs,b,h1,h2,h3⟩;exact⟨0,rfl,rfl,(hB4.trans (hW.mono hB4.size)).trans ((hk.mono fun k (hk:k<w.heap.size)=>by omega).below (Nat.le_trans hB4.size hW.size)),hk.heap zO (b3.below' hW),cs,b,h1,h2,h3.mono zO⟩⟩)
 have HA:=zh hask;have HW:=zh hw4;have HB4:=zh hB4;have H3:=zh b3;have H4:=zh b4;have H5:=zh b5;have e0:=zC (b0);obtain⟨er0,her⟩:=zx (xErr c l (foundB c l S F));have HER:=zh her;clear hask hw4 hB4 b0 b1 b2 b3 b4 b5 hp hq hS hF hS4 hF4 her hs4
 go_enter Tryz.func16,Tryz.ntmps16
 go_upto_region 3 with fail
 simp only[HW.out]
 go_wp2_with fail
 refine zM HA ?_;rintro e w5 hpost;obtain⟨er,rfl,hcs⟩:=ask_cases hpost;have hcom:Below w.heap.size w w5∧Box w5 (w.heap.size+3) #[.string ⟨#[]⟩,.int .i64 0,.int .i64 0,.slice none 0 0] 24∧er=xErr c l (foundB c l S F)∧∃cs b,Box w5 (w.heap.size+4) cs 24∧Box w5 (w.heap.size+5) #[.bool b] 4∧AftCells (if er=0 then afterC c l (nats S) (nats F) else none) (w.heap.size+6) w5 cs b:=by
  rcases hcs with ⟨h1,rfl,hb5⟩|⟨h1,rfl,hb5,h3,cs,b,h4,h5,h6⟩
  ·exact⟨HB4.out.trans (hb5.mono HB4.out.size),H3.out.below' hb5,rfl,_,_,H4.out.below' hb5,H5.out.below' hb5,.inl ⟨if_neg h1,rfl,rfl⟩⟩
  ·exact⟨hb5,h3,h1.symm,cs,b,h4,h5,by simpa using h6⟩
 obtain⟨hb5,h3,her,cs,b,h4,h5,h6⟩:=hcom;obtain⟨u1,u2,u3,u4,u5,u6,hcse⟩:=h6.four;subst hcse;have HB5:=zh hb5;have HR:=zh h3;have HX:=zh h4;have HY:=zh h5;have HC:=zh h6;have HE:=zh her;clear hcs hpost e0 hb5 h3 h4 h5 h6 her HA
 go_wp2_with fail
 have K0:Hid (∀A,Box A (w.heap.size+4) #[.string u1,.int .i64 u2,.int .i64 u3,.slice u4 u5 u6] 24∧Box A (w.heap.size+5) #[.bool b] 4→(∀j,A.cell? ⟨w.heap.size+4,j,none⟩=(#[.string u1,.int .i64 u2,.int .i64 u3,.slice u4 u5 u6]:Array Value)[j]?)∧(∀j,A.cell? ⟨w.heap.size+5,j,none⟩=(#[.bool b]:Array Value)[j]?)):=zh fun A hA=>⟨hA.1.cell,hA.2.cell⟩
 refine wp_region_L (fun A=>Box A (w.heap.size+4) #[.string u1,.int .i64 u2,.int .i64 u3,.slice u4 u5 u6] 24∧Box A (w.heap.size+5) #[.bool b] 4) 6 zK ?_;have hSS:Box w5.drew (w.heap.size+4) #[.string u1,.int .i64 u2,.int .i64 u3,.slice u4 u5 u6] 24∧Box w5.drew (w.heap.size+5) #[.bool b] 4:=⟨HX.out,HY.out⟩
 have hR:Box w5.drew (w.heap.size+3) #[.string ⟨#[]⟩,.int .i64 0,.int .i64 0,.slice none 0 0] 24:=HR.out;have hB:Below w.heap.size w w5.drew:=HB5.out.drew;have hC:AftCells (if er=0 then afterC c l (nats S) (nats F) else none) (w.heap.size+6) w5.drew #[.string u1,.int .i64 u2,.int .i64 u3,.slice u4 u5 u6] b:=HC.out.keep (Keep.refl _ w5).drew;generalize w5.drew=w6 at *;refine tM K0 0 hSS ?_;refine tM K0 1 hSS ?_;refine tM K0 2 hSS ?_;obtain⟨z1,z2⟩:=hR.rules
 have hS2:Box ((((w6.setCell ⟨w.heap.size+3,0,none⟩ (.string u1)).setCell ⟨w.heap.size+3,1,none⟩ (.int .i64 u2)).setCell ⟨w.heap.size+3,2,none⟩ (.int .i64 u3)).setCell ⟨w.heap.size+3,3,none⟩ (.slice u4 u5 u6)) (w.heap.size+4) #[.string u1,.int .i64 u2,.int .i64 u3,.slice u4 u5 u6] 24∧Box ((((w6.setCell ⟨w.heap.size+3,0,none⟩ (.string u1)).setCell ⟨w.heap.size+3,1,none⟩ (.int .i64 u2)).setCell ⟨w.heap.size+3,2,none⟩ (.int .i64 u3)).setCell ⟨w.heap.size+3,3,none⟩ (.slice u4 u5 u6)) (w.heap.size+5) #[.bool b] 4:=
  ⟨(((hSS.1.far zS _).far zS _).far zS _).far zS _,(((hSS.2.far zS _).far zS _).far zS _).far zS _⟩
 refine anyL_skip (i:=3) (w':=(((w6.setCell ⟨w.heap.size+3,0,none⟩ (.string u1)).setCell ⟨w.heap.size+3,1,none⟩ (.int .i64 u2)).setCell ⟨w.heap.size+3,2,none⟩ (.int .i64 u3)).setCell ⟨w.heap.size+3,3,none⟩ (.slice u4 u5 u6)) rfl zK (by rfl) ?_ (.inr hS2) ?_
 ·go_simp
  try with_reducible rfl
 try simp only[pZ]
 refine anyL_run (i:=4) (v:=.bool b) (w':=(((w6.setCell ⟨w.heap.size+3,0,none⟩ (.string u1)).setCell ⟨w.heap.size+3,1,none⟩ (.int .i64 u2)).setCell ⟨w.heap.size+3,2,none⟩ (.int .i64 u3)).setCell ⟨w.heap.size+3,3,none⟩ (.slice u4 u5 u6)) rfl zK (by rfl) (by go_simp) (.inr hS2) ?_
 try simp only[pZ]
 refine anyL_run (i:=5) (v:=.int .i64 er) (w':=(((w6.setCell ⟨w.heap.size+3,0,none⟩ (.string u1)).setCell ⟨w.heap.size+3,1,none⟩ (.int .i64 u2)).setCell ⟨w.heap.size+3,2,none⟩ (.int .i64 u3)).setCell ⟨w.heap.size+3,3,none⟩ (.slice u4 u5 u6)) rfl zK (by rfl) (by go_simp) (.inr hS2) ?_
 try simp only[pZ]
 refine anyL_done zK ?_ _;have HR6:=zh ((((hR.set_ 0 (.string u1)).set_ 1 (.int .i64 u2)).set_ 2 (.int .i64 u3)).set_ 3 (.slice u4 u5 u6));have HB6:=zh ((((hB.setCell (p:=⟨w.heap.size+3,0,none⟩) zS (.string u1)).setCell (p:=⟨w.heap.size+3,1,none⟩) zS (.int .i64 u2)).setCell (p:=⟨w.heap.size+3,2,none⟩) zS (.int .i64 u3)).setCell (p:=⟨w.heap.size+3,3,none⟩) zS (.slice u4 u5 u6));have HC6:=zh (hC.keep ((((Keep.refl (fun k=>w.heap.size+6≤k) w6).setCell (p:=⟨w.heap.size+3,0,none⟩) (.inl zS) (.string u1)).setCell (p:=⟨w.heap.size+3,1,none⟩) (.inl zS) (.int .i64 u2)).setCell (p:=⟨w.heap.size+3,2,none⟩) (.inl zS) (.int .i64 u3) |>.setCell (p:=⟨w.heap.size+3,3,none⟩) (.inl zS) (.slice u4 u5 u6)));clear hSS hS2 hR hB hC z1 z2 K0 HC
 generalize (((w6.setCell ⟨w.heap.size+3,0,none⟩ (.string u1)).setCell ⟨w.heap.size+3,1,none⟩ (.int .i64 u2)).setCell ⟨w.heap.size+3,2,none⟩ (.int .i64 u3)).setCell ⟨w.heap.size+3,3,none⟩ (.slice u4 u5 u6)=w7 at *
 go_wp2_with fail
 refine bodyPost_ret (results_ctt rfl rfl (run_loadVar_row _ _ 24 24 _ (0,0) _ HR6.out Tryz.underlying24 rfl case_size)) rfl ?_;refine⟨HB6.out,_,b,by rw[←HE.out];rfl,?_⟩;rw[←HE.out];exact HC6.out.mono zO
end
