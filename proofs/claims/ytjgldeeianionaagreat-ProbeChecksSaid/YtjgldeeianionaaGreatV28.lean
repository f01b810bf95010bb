/- Walks and plain laws. No condition. -/
import Derived.Test.YtjgldeeianionaaGreatV27
set_option maxHeartbeats 2000000
set_option maxRecDepth 100000
set_option linter.unusedSimpArgs false
set_option linter.unusedVariables false
namespace Go.Proofs.YtjgldeeianionaaGreat
open Go.RowKit
section
attribute [local go_sem] Oper.semAt_some
theorem decides_any {t:Nat}{c:Cs}{pa:Option Addr}{pc:Nat}{l:List Prb}{qa:Option Addr}{qc:Nat}(hsm:c.Small)(hpr:probesErr c l=0)(a b:Nat)(ha:a<c.parts.length)(hb:b<c.parts.length)(sa:Option Addr)(s:List Nat)(sc:Nat)(hs:∀v∈s,v<l.length)(hsl:s.length≤1000)(w:World)(h:LabAt w t c pa pc l qa qc)(hS:Ints w sa (natInts s)):
 Calls Tryz.prog 104 #[.pointer (some ⟨t,0,none⟩),.int .i64 a,.int .i64 b,.slice sa s.length sc] w fun e w'=>e = .returned (.bool (decidesB c l a b s))∧Below w.heap.size w w':=by
 have HD:=zh (doubtful_any hsm hpr a b ha hb sa s sc hs hsl w h hS);clear hpr hs h hS
 go_enter Tryz.func104,Tryz.ntmps104
 go_wp2_with fail
 refine zM HD ?_;rintro e w2 ⟨hb2,(⟨ho,rfl⟩|⟨x,d,fa,fc,ba,pc',ho,-,-,rfl,-⟩)⟩
 ·have HB2:=zh hb2;have HO:=zh (show decidesB c l a b s=true by simp[decidesB,ho]);clear hb2 ho
  go_wp2_with fail
  go_ret
  exact⟨by rw[HO.out];rfl,HB2.out.alloc HB2.out.size _⟩
 ·have HB2:=zh hb2;have HO:=zh (show decidesB c l a b s=false by simp[decidesB,ho]);clear hb2 ho
  go_wp2_with fail
  go_ret
  exact⟨by rw[HO.out];rfl,HB2.out.alloc HB2.out.size _⟩
theorem keep_of {w W:World}(h:Below w.heap.size w W):Keep (fun k=>k<w.heap.size) w W:=Keep.of_below' h
def CostFn (K:Nat)(first:Array Value)(w0:World)(cost:List Nat→Int)(L:List (List Nat)):Prop:=
 (∀args W,(callFunc K args).run Tryz.prog W = .ok (.enter K args) W)∧∀W x ra rc,Below w0.heap.size w0 W→x∈L→Ints W ra (natInts x)→x.length≤rc →
  Calls Tryz.prog K (first.push (.slice ra x.length rc)) W fun e W'=>e = .returned (.int .i64 (cost x))∧W=W'
def LeastPost (B M:Nat)(o:Option (List Nat))(w:World)(e:Ending)(w':World):Prop:=
 Below w.heap.size w w'∧((o=none∧e = .returned (.tuple #[.slice none 0 0,.bool false]))∨∃x ra rc,o=some x∧e = .returned (.tuple #[.slice ra x.length rc,.bool true])∧IntsHi B M w' ra (natInts x)∧x.length≤rc)
theorem least_take {cost:List Nat→Int}{wanted:List Nat→Bool}{L:List (List Nat)}{k:Nat}{x:List Nat}(hx:L[k]?=some x):leastOf cost wanted (L.take (k+1))=leastStep cost wanted (leastOf cost wanted (L.take k)) x:=by
 rw[take_snoc hx,leastOf_snoc]
theorem leastRows_any {KC KW:Nat}{first caps:Array Value}{cost:List Nat→Int}{wanted:List Nat→Bool}{L:List (List Nat)}(a:Option Addr)(n:Nat)(w:World)(hc:CostFn KC first w cost L)(hwf:RowFn KW caps w w.heap.size wanted L){B M:Nat}(h:RowsHi B M w a L)(hl:L.length≤1000000)(hcb:∀x∈L,0≤cost x∧cost x≤1000000):
 Calls Tryz.prog 161 #[.slice a L.length n,.func (.func KC) first #[],.func (.func KW) #[] caps] w (LeastPost B M (leastOf cost wanted L) w):=by
 have hent1:=hc.1;have hent2:=hwf.1;have HC:=zh hc.2;have HWF:=zh hwf.2;have HL:=zh hcb;clear hc hwf hcb
 go_enter Tryz.func161,Tryz.ntmps161
 go_wp2_with fail
 go_loopw [8,9,14] (fun bv fv iv wr=>∃k:Nat,k≤L.length∧iv = .int .i64 k∧Below w.heap.size w wr∧((leastOf cost wanted (L.take k)=none∧bv = .slice none 0 0∧fv = .bool false)∨∃x ra rc,leastOf cost wanted (L.take k)=some x∧bv = .slice ra x.length rc∧fv = .bool true∧IntsHi B M wr ra (natInts x)∧x.length≤rc∧x∈L)) (fun _ _ iv _=>L.length-(intOf iv).toNat)
 case atStart=>exact⟨0,Nat.zero_le _,rfl,Below.refl _ _,.inl ⟨rfl,rfl,rfl⟩⟩
 case round=>
  obtain⟨k,hk,rfl,hb,hst⟩:=hrel;have HB:=zh hb;clear hb
  by_cases hlt:k<L.length
  ·obtain⟨x,hx⟩:=get_of_lt L hlt;obtain⟨b,o,ra,rc,rfl,_,_,c1,hi,hrc⟩:=(h.below HB.out) k x hx;have hkn:(k:Int)<(L.length:Int):=by omega
   have hxl:=List.mem_of_getElem? hx;have HX:=zh hx;have HXL:=zh hxl;have HI:=zh hi;have HCX:=zh (HC.out wr x ra rc HB.out hxl hi.at_ hrc);have HWN:=zh (HWF.out wr x ra rc (keep_of HB.out) hxl hi.at_ hrc);clear hx hi hxl
   rcases hst with ⟨h1,rfl,rfl⟩|⟨y,ya,yc,h1,rfl,rfl,hyi,hyc,hyl⟩
   ·have H1:=zh h1;clear h1
    go_wp2_with fail
    refine zM HWN ?_;rintro e w2 ⟨rfl,hb2⟩;have HB2:=zh (HB.out.trans (hb2.mono HB.out.size));have HI2:=zh (HI.out.below hb2);have hb2':=hb2;clear hb2 c1
    rcases hw:wanted x with _|_
    ·have HW:=zh hw;simp only[hw];clear hw
     go_wp2_with fail
     go_roundw
     case rel=>exact⟨k+1,zO,zN,HB2.out,.inl ⟨by rw[least_take HX.out,H1.out];simp[leastStep,HW.out],rfl,rfl⟩⟩
     case measure=>exact zJ
    ·have HW:=zh hw;simp only[hw];clear hw
     go_wp2_with fail
     go_roundw
     case rel=>exact⟨k+1,zO,zN,HB2.out,.inr ⟨x,ra,rc,by rw[least_take HX.out,H1.out];simp[leastStep,HW.out],rfl,rfl,HI2.out,hrc,HXL.out⟩⟩
     case measure=>exact zJ
   ·have H1:=zh h1;have HYL:=zh hyl;have HYI:=zh hyi;have HCY:=zh (HC.out wr y ya yc HB.out hyl hyi.at_ hyc);have hb1:=HL.out x HXL.out;have hb2:=HL.out y hyl;obtain⟨cx,hcx⟩:=zx (cost x);obtain⟨cy,hcy⟩:=zx (cost y);rw[hcx] at hb1 HCX;rw[hcy] at hb2 HCY;have HCE:=zh (And.intro hcx hcy);clear h1 hyi hcx hcy hyl
    go_wp2_with fail
    refine zM HCX ?_;rintro e w1 ⟨rfl,rfl⟩
    go_wp2_with fail
    refine zM HCY ?_;rintro e w1 ⟨rfl,rfl⟩
    by_cases hlt2:cx<cy
    ·have HLT:=zh hlt2
     go_wp2_with fail
     refine zM HWN ?_;rintro e w2 ⟨rfl,hb2⟩;have HB2:=zh (HB.out.trans (hb2.mono HB.out.size));have HI2:=zh (HI.out.below hb2);have hb2':=hb2;clear hb2 c1
     rcases hw:wanted x with _|_
     ·have HW:=zh hw;simp only[hw];clear hw;have HYI2:=zh (HYI.out.below hb2')
      go_wp2_with fail
      go_roundw
      case rel=>exact⟨k+1,zO,zN,HB2.out,.inr ⟨y,ya,yc,by rw[least_take HX.out,H1.out];simp[leastStep,HW.out],rfl,rfl,HYI2.out,hyc,HYL.out⟩⟩
      case measure=>exact zJ
     ·have HW:=zh hw;simp only[hw];clear hw
      go_wp2_with fail
      go_roundw
      case rel=>exact⟨k+1,zO,zN,HB2.out,.inr ⟨x,ra,rc,by rw[least_take HX.out,H1.out];simp[leastStep,HW.out,HCE.out.1,HCE.out.2,HLT.out],rfl,rfl,HI2.out,hrc,HXL.out⟩⟩
      case measure=>exact zJ
    ·have HLT:=zh hlt2;have hltb:decide (cx<cy)=false:=by simpa using hlt2
     clear hlt2 c1
     go_wp2_with fail
     go_roundw
     case rel=>exact⟨k+1,zO,zN,HB.out,.inr ⟨y,ya,yc,by rw[least_take HX.out,H1.out];simp[leastStep,HCE.out.1,HCE.out.2];intro h;exact absurd h (by have:=HLT.out;omega),rfl,rfl,HYI.out,hyc,HYL.out⟩⟩
     case measure=>exact zJ
  ·have hkn:decide ((k:Int)<(L.length:Int))=false:=by simp;omega
   have HT:=zh (show L.take k=L from List.take_of_length_le zO);rw[HT.out] at hst
   rcases hst with ⟨h1,rfl,rfl⟩|⟨y,ya,yc,h1,rfl,rfl,hyi,hyc,hyl⟩
   ·have H1:=zh h1;clear h1
    go_wp2_with fail
    go_ret2
    exact⟨HB.out,.inl ⟨H1.out,rfl⟩⟩
   ·have H1:=zh h1;have HYI:=zh hyi;clear h1 hyi
    go_wp2_with fail
    go_ret2
    exact⟨HB.out,.inr ⟨y,ya,yc,H1.out,rfl,HYI.out,hyc⟩⟩
end
