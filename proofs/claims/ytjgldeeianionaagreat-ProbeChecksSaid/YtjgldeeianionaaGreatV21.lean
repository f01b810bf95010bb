/- Walks and plain laws. No condition. -/
import Derived.Test.YtjgldeeianionaaGreatV20
set_option maxHeartbeats 8000000
set_option maxRecDepth 100000
set_option linter.unusedSimpArgs false
set_option linter.unusedVariables false
namespace Go.Proofs.YtjgldeeianionaaGreat
open Go.RowKit
section
attribute [local go_sem] Oper.semAt_some
theorem after_any {t:Nat}{c:Cs}{pa:Option Addr}{pc:Nat}{l:List Prb}{qa:Option Addr}{qc:Nat}(hsm:c.Small)(hpr:probesErr c l=0)(hpa:pa.isSome=true)(sa:Option Addr)(s:List Nat)(sc:Nat)(fa:Option Addr)(fs:List Nat)(fc:Nat)(w:World)(h:LabAt w t c pa pc l qa qc)
 (hS:Ints w sa (natInts s)) (hF:Ints w fa (natInts fs)) (hsl:s.length≤1000) (hfl:fs.length=s.length) (hs:∀(i v:Nat),s[i]?=some v→∃(p:Prb) (f:Nat),l[v]?=some p∧fs[i]?=some f∧f<cntN (spanOf c p) p.width):
 Calls Tryz.prog 62 #[.pointer (some ⟨t,0,none⟩),.slice sa s.length sc,.slice fa fs.length fc] w (AftPost (afterC c l s fs) w):=by
 have hl10:=hsm.1;have htl:t<w.heap.size:=h.box.lt;obtain⟨w1,hw1⟩:=zx (w.alloc (.cells #[.string ⟨#[]⟩,.int .i64 0,.int .i64 0,.slice none 0 0] 24));obtain⟨w2,hw2⟩:=zx (w1.alloc (.cells #[.string c.ware,.int .i64 c.limit,.int .i64 c.by_,.slice pa c.parts.length pc] 24));have hs1:w1.heap.size=w.heap.size+1:=by rw[←hw1];simp
 have hBa:Below w.heap.size w w1:=by rw[←hw1];go_grown
 have hB2:Below w.heap.size w w2:=by rw[←hw2,←hw1];go_grown
 have b1:Box w2 w.heap.size #[.string ⟨#[]⟩,.int .i64 0,.int .i64 0,.slice none 0 0] 24:=by rw[←hw2,←hw1];exact(Box.new _ _ _).alloc _
 have b0:Box w2 (w.heap.size+1) #[.string c.ware,.int .i64 c.limit,.int .i64 c.by_,.slice pa c.parts.length pc] 24:=by rw[←hw2];exact Box.new' hs1.symm
 have e1:=(h.below hBa).cells;have hcp:=cloneP_any pa pc c.parts w w2 h.parts hB2 zO hpa;have HCP:=zh hcp;have HL:=zh h;have HSI:=zh hS;have HFI:=zh hF;have HSS:=zh hs;have HPR:=zh hpr;have HW1:=zh hw1;have HW2:=zh hw2;have HB0:=zh b0;have HB1:=zh b1;have HS1:=zh hs1;have HFL:=zh hfl;clear hcp hw1 hw2 b0 b1 h hS hF hs hBa hpr hs1 hfl
 go_enter Tryz.func62,Tryz.ntmps62
 go_upto_region 1 with fail
 simp only[HW1.out]
 go_upto_region 2 with fail
 simp only[HW2.out,HS1.out];have e0:=HB0.out.cell;clear e1
 go_wp2_with (go_at_call 151;refine zM HCP ?_;rintro e w3 ⟨PB,pc',cells,rfl,hpc,hPB,hbx,hone,hb3⟩;have u0:=(HB0.out.below' hb3).rules;obtain⟨u01,u02⟩:=u0;have HBX:=zh hbx;have HONE:=zh hone;have HB3:=zh hb3;clear hbx hone hb3)
 have hsz2:w.heap.size+1<w2.heap.size:=HB0.out.lt;have hst:PartsOwn w.heap.size (w3.setCell ⟨w.heap.size+1,3,none⟩ (.slice (some ⟨PB,0,none⟩) c.parts.length pc')) PB cells 0 c.parts:=by
  refine⟨HBX.out.far zT _,zO,fun i p hpi=>?_⟩;obtain⟨sa,sc,ra,rc,h1,h2,h3,h4,h5,h6,h7⟩:=HONE.out i p hpi;exact⟨sa,sc,ra,rc,h1,ints_far h2 (fun b o ha hl=>by have:=(h6 b o ha hl).2;simp;omega) _,ints_far h3 (fun b o ha hl=>by have:=(h7 b o ha hl).2;simp;omega) _,h4,h5,fun b o ha hl=>⟨(h6 b o ha hl).1,by simpa using(h6 b o ha hl).2⟩,fun b o ha hl=>⟨(h7 b o ha hl).1,by simpa using(h7 b o ha hl).2⟩⟩
 have hc0:Box (w3.setCell ⟨w.heap.size+1,3,none⟩ (.slice (some ⟨PB,0,none⟩) c.parts.length pc')) (w.heap.size+1) #[.string c.ware,.int .i64 c.limit,.int .i64 c.by_,.slice (some ⟨PB,0,none⟩) c.parts.length pc'] 24:=(HB0.out.below' HB3.out).set_ 3 _;have hc1:Box (w3.setCell ⟨w.heap.size+1,3,none⟩ (.slice (some ⟨PB,0,none⟩) c.parts.length pc')) w.heap.size #[.string ⟨#[]⟩,.int .i64 0,.int .i64 0,.slice none 0 0] 24:=(HB1.out.below' HB3.out).far zS _;have hold:Below w.heap.size w (w3.setCell ⟨w.heap.size+1,3,none⟩ (.slice (some ⟨PB,0,none⟩) c.parts.length pc')):=(hB2.trans (HB3.out.mono hB2.size)).setCell zS _;generalize (w3.setCell ⟨w.heap.size+1,3,none⟩ (.slice (some ⟨PB,0,none⟩) c.parts.length pc'))=w4 at *;clear u01 u02 e0;have HST:=zh hst;have HC0:=zh hc0;have HC1:=zh hc1;have HOLD:=zh hold;have HPC:=zh hpc
 clear hst hc0 hc1 hold HB0 HB1 HBX HONE HB3
 go_loopw [26] (fun i wr=>∃(k:Nat) (cells:Array Value),k≤c.parts.length∧i = .int .i64 k∧PartsOwn w.heap.size wr PB cells k c.parts∧Box wr (w.heap.size+1) #[.string c.ware,.int .i64 c.limit,.int .i64 c.by_,.slice (some ⟨PB,0,none⟩) c.parts.length pc'] 24∧Box wr w.heap.size #[.string ⟨#[]⟩,.int .i64 0,.int .i64 0,.slice none 0 0] 24∧Below w.heap.size w wr) (fun i _=>c.parts.length-(intOf i).toNat)
 case atStart=>exact⟨0,cells,Nat.zero_le _,rfl,HST.out,HC0.out,HC1.out,HOLD.out⟩
 case round=>
  obtain⟨k,cs,hk,rfl,hst,hc0,hc1,hold⟩:=hrel;have HS:=zh hst;have H0:=zh hc0;have H1:=zh hc1;have HB:=zh hold;have u0:=hc0.rules;obtain⟨u01,u02⟩:=u0;clear hst hc0 hc1 hold
  by_cases hlt:k<c.parts.length
  ·obtain⟨p,hp⟩:=get_of_lt c.parts hlt;obtain⟨sa,sc,ra,rc,e1,e2,e3,e4,e5,e6,e7⟩:=HS.out.one k p hp;have c0:cs[k*8]?=some (.slice sa p.sherds.length sc):=e1 0 _ rfl;have c7:cs[k*8+7]?=some (.slice ra p.rests.length rc):=e1 7 _ rfl;have hfar:=HS.out.far;have hne:PB≠w.heap.size+1:=by omega
   have E2:=zh e2;have E3:=zh e3;have HP:=zh hp;have hls:=(hsm.2.2 p (List.mem_of_getElem? hp))
   obtain⟨hl1,hl2⟩:=hls;have uP:=HS.out.box.rules;obtain⟨uP1,uP2⟩:=uP;clear e1 e2 e3 e6 e7 hp
   go_wp2_with fail
   have HL1:=zh (clone2_any sa sc p.sherds wr.drew E2.out zO);have HL2:Hid (∀W,Below wr.drew.heap.size wr.drew W→Calls Tryz.prog 152 #[.slice ra p.rests.length rc] W (Copy2Post W.heap.size p.rests W)):=zh (fun W hW=>clone2_any ra rc p.rests W (E3.out.below (w:=wr.drew) hW) zO);have HBD:=zh (show Box wr.drew (w.heap.size+1) _ _ from H0.out);have HSD:=zh (show Box wr.drew PB _ _ from HS.out.box);refine wp_region_held_drew (S:=(fun w'=>w'.cell? ⟨w.heap.size+1,3,none⟩=some (.slice (some ⟨PB,0,none⟩) c.parts.length pc'))) zK ?_ (fun hh0=>?_)
   ·((try dsimp only);go_keep)
   refine tH 0 hh0 ?_;refine tH 1 hh0 ?_;refine tH 2 hh0 ?_;refine tH 3 hh0 ?_;refine tH 4 hh0 ?_;refine tH 5 hh0 ?_;refine tH 6 hh0 ?_;refine tH 7 hh0 ?_;refine tH 8 hh0 ?_;refine tH 9 hh0 ?_;refine tH 10 hh0 ?_;refine tH 13 hh0 ?_;refine tH 14 hh0 ?_;refine tH 15 hh0 ?_;refine tH 16 hh0 ?_;refine tH 17 hh0 ?_;refine wpAnyH_ready (rs:=[11,18]) zK zS ?_;refine AllReadyH.cons rfl (fun K hK=>?_) ?_
   ·go_simp
    refine hK.out _ _ ?_ (fun hh1=>?_)
    ·((try dsimp only);go_keep)
    clear hK K
    try simp only[Act.put,List.setIfInBounds_toArray,List.set_cons_zero,List.set_cons_succ]
    refine wpAnyH_ready (rs:=[12,18]) zK zS ?_;refine AllReadyH.cons rfl (fun K hK=>?_) ?_
    ·go_simp
     first
      |(refine HL1.out.mono ?_;rintro e W1 ⟨a1,c1,rfl,ho1,hcap1,hb1⟩;have uQ:=(HBD.out.below' hb1).rules;obtain⟨uQ1,uQ2⟩:=uQ;have uR:=(HSD.out.below' hb1).rules;obtain⟨uR1,uR2⟩:=uR;have HB1:=zh hb1;have HO1:=zh ho1;clear hb1 ho1)
      |(refine(HL2.out _ HB1.out).mono ?_;rintro e W2 ⟨a2,c2,rfl,ho2,hcap2,hb2⟩;have uQ:=((HBD.out.below' HB1.out).below' hb2).rules;obtain⟨uS1,uS2⟩:=uQ;have uR:=((HSD.out.below' HB1.out).below' hb2).rules;obtain⟨uT1,uT2⟩:=uR;have HB2:=zh hb2;have HO2:=zh ho2;clear hb2 ho2)
     refine hK.out _ _ ?_ (fun hh2=>?_)
     ·((try dsimp only);go_keep)
     clear hK K
     try simp only[Act.put,List.setIfInBounds_toArray,List.set_cons_zero,List.set_cons_succ]
     refine wpAnyH_ready (rs:=[18]) zK zS ?_;refine AllReadyH.cons rfl (fun K hK=>?_) ?_
     ·go_simp
      refine hK.out _ _ ?_ (fun hh3=>?_)
      ·((try dsimp only);go_keep)
      clear hK K
      try simp only[Act.put,List.setIfInBounds_toArray,List.set_cons_zero,List.set_cons_succ]
      refine wpAnyH_ready (rs:=[19]) zK zS ?_;refine AllReadyH.cons rfl (fun K hK=>?_) ?_
      ·go_simp
       first
        |(refine HL1.out.mono ?_;rintro e W1 ⟨a1,c1,rfl,ho1,hcap1,hb1⟩;have uQ:=(HBD.out.below' hb1).rules;obtain⟨uQ1,uQ2⟩:=uQ;have uR:=(HSD.out.below' hb1).rules;obtain⟨uR1,uR2⟩:=uR;have HB1:=zh hb1;have HO1:=zh ho1;clear hb1 ho1)
        |(refine(HL2.out _ HB1.out).mono ?_;rintro e W2 ⟨a2,c2,rfl,ho2,hcap2,hb2⟩;have uQ:=((HBD.out.below' HB1.out).below' hb2).rules;obtain⟨uS1,uS2⟩:=uQ;have uR:=((HSD.out.below' HB1.out).below' hb2).rules;obtain⟨uT1,uT2⟩:=uR;have HB2:=zh hb2;have HO2:=zh ho2;clear hb2 ho2)
       refine hK.out _ _ ?_ (fun hh4=>?_)
       ·((try dsimp only);go_keep)
       clear hK K
       try simp only[Act.put,List.setIfInBounds_toArray,List.set_cons_zero,List.set_cons_succ]
       refine tH 20 hh4 ?_;refine tH 21 hh4 ?_;refine wpAnyH_ready (rs:=[22]) zK zS ?_;refine AllReadyH.cons rfl (fun K hK=>?_) ?_
       ·go_simp
        refine hK.out _ _ ?_ (fun hh5=>?_)
        ·((try dsimp only);go_keep)
        clear hK K
        try simp only[Act.put,List.setIfInBounds_toArray,List.set_cons_zero,List.set_cons_succ]
        refine tH 23 hh5 ?_;refine tH 24 hh5 ?_;refine wpAnyH_ready (rs:=[25]) zK zS ?_;refine AllReadyH.cons rfl (fun K hK=>?_) ?_
        ·go_simp
         refine hK.out _ _ ?_ (fun hh6=>?_)
         ·((try dsimp only);go_keep)
         clear hK K
         try simp only[Act.put,List.setIfInBounds_toArray,List.set_cons_zero,List.set_cons_succ]
         refine wpAnyH_done zK ?_ _
         go_wp2_with fail
         go_roundw
         case rel=>
          have hb12:Below wr.heap.size wr W2:=((Below.refl _ wr).drew).trans (show Below wr.heap.size wr.drew W2 from HB1.out.trans (HB2.out.mono HB1.out.size));refine⟨k+1,_,zO,zN,partsOwn_step HS.out HP.out hb12 (HO1.out.below HB2.out) (HO2.out.less HB1.out.size) hcap1 hcap2,?_,?_,?_⟩
          ·exact((H0.out.below' hb12).far zT _).far zT _
          ·exact((H1.out.below' hb12).far zT _).far zT _
          ·exact((HB.out.trans (hb12.mono HB.out.size)).setCell zT _).setCell zT _
         case measure=>exact zJ
        exact AllReadyH.nil
       exact AllReadyH.nil
      exact AllReadyH.nil
     exact AllReadyH.nil
    refine AllReadyH.cons rfl (fun K hK=>?_) ?_
    ·go_simp
     refine hK.out _ _ ?_ (fun hh7=>?_)
     ·((try dsimp only);go_keep)
     clear hK K
     try simp only[Act.put,List.setIfInBounds_toArray,List.set_cons_zero,List.set_cons_succ]
     refine wpAnyH_ready (rs:=[12]) zK zS ?_;refine AllReadyH.cons rfl (fun K hK=>?_) ?_
     ·go_simp
      first
       |(refine HL1.out.mono ?_;rintro e W1 ⟨a1,c1,rfl,ho1,hcap1,hb1⟩;have uQ:=(HBD.out.below' hb1).rules;obtain⟨uQ1,uQ2⟩:=uQ;have uR:=(HSD.out.below' hb1).rules;obtain⟨uR1,uR2⟩:=uR;have HB1:=zh hb1;have HO1:=zh ho1;clear hb1 ho1)
       |(refine(HL2.out _ HB1.out).mono ?_;rintro e W2 ⟨a2,c2,rfl,ho2,hcap2,hb2⟩;have uQ:=((HBD.out.below' HB1.out).below' hb2).rules;obtain⟨uS1,uS2⟩:=uQ;have uR:=((HSD.out.below' HB1.out).below' hb2).rules;obtain⟨uT1,uT2⟩:=uR;have HB2:=zh hb2;have HO2:=zh ho2;clear hb2 ho2)
      refine hK.out _ _ ?_ (fun hh8=>?_)
      ·((try dsimp only);go_keep)
      clear hK K
      try simp only[Act.put,List.setIfInBounds_toArray,List.set_cons_zero,List.set_cons_succ]
      refine wpAnyH_ready (rs:=[19]) zK zS ?_;refine AllReadyH.cons rfl (fun K hK=>?_) ?_
      ·go_simp
       first
        |(refine HL1.out.mono ?_;rintro e W1 ⟨a1,c1,rfl,ho1,hcap1,hb1⟩;have uQ:=(HBD.out.below' hb1).rules;obtain⟨uQ1,uQ2⟩:=uQ;have uR:=(HSD.out.below' hb1).rules;obtain⟨uR1,uR2⟩:=uR;have HB1:=zh hb1;have HO1:=zh ho1;clear hb1 ho1)
        |(refine(HL2.out _ HB1.out).mono ?_;rintro e W2 ⟨a2,c2,rfl,ho2,hcap2,hb2⟩;have uQ:=((HBD.out.below' HB1.out).below' hb2).rules;obtain⟨uS1,uS2⟩:=uQ;have uR:=((HSD.out.below' HB1.out).below' hb2).rules;obtain⟨uT1,uT2⟩:=uR;have HB2:=zh hb2;have HO2:=zh ho2;clear hb2 ho2)
       refine hK.out _ _ ?_ (fun hh9=>?_)
       ·((try dsimp only);go_keep)
       clear hK K
       try simp only[Act.put,List.setIfInBounds_toArray,List.set_cons_zero,List.set_cons_succ]
       refine tH 20 hh9 ?_;refine tH 21 hh9 ?_;refine wpAnyH_ready (rs:=[22]) zK zS ?_;refine AllReadyH.cons rfl (fun K hK=>?_) ?_
       ·go_simp
        refine hK.out _ _ ?_ (fun hh10=>?_)
        ·((try dsimp only);go_keep)
        clear hK K
        try simp only[Act.put,List.setIfInBounds_toArray,List.set_cons_zero,List.set_cons_succ]
        refine tH 23 hh10 ?_;refine tH 24 hh10 ?_;refine wpAnyH_ready (rs:=[25]) zK zS ?_;refine AllReadyH.cons rfl (fun K hK=>?_) ?_
        ·go_simp
         refine hK.out _ _ ?_ (fun hh11=>?_)
         ·((try dsimp only);go_keep)
         clear hK K
         try simp only[Act.put,List.setIfInBounds_toArray,List.set_cons_zero,List.set_cons_succ]
         refine wpAnyH_done zK ?_ _
         go_wp2_with fail
         go_roundw
         case rel=>
          have hb12:Below wr.heap.size wr W2:=((Below.refl _ wr).drew).trans (show Below wr.heap.size wr.drew W2 from HB1.out.trans (HB2.out.mono HB1.out.size));refine⟨k+1,_,zO,zN,partsOwn_step HS.out HP.out hb12 (HO1.out.below HB2.out) (HO2.out.less HB1.out.size) hcap1 hcap2,?_,?_,?_⟩
          ·exact((H0.out.below' hb12).far zT _).far zT _
          ·exact((H1.out.below' hb12).far zT _).far zT _
          ·exact((HB.out.trans (hb12.mono HB.out.size)).setCell zT _).setCell zT _
         case measure=>exact zJ
        exact AllReadyH.nil
       exact AllReadyH.nil
      exact AllReadyH.nil
     exact AllReadyH.nil
    exact AllReadyH.nil
   refine AllReadyH.cons rfl (fun K hK=>?_) ?_
   ·go_simp
    refine hK.out _ _ ?_ (fun hh12=>?_)
    ·((try dsimp only);go_keep)
    clear hK K
    try simp only[Act.put,List.setIfInBounds_toArray,List.set_cons_zero,List.set_cons_succ]
    refine wpAnyH_ready (rs:=[11]) zK zS ?_;refine AllReadyH.cons rfl (fun K hK=>?_) ?_
    ·go_simp
     refine hK.out _ _ ?_ (fun hh13=>?_)
     ·((try dsimp only);go_keep)
     clear hK K
     try simp only[Act.put,List.setIfInBounds_toArray,List.set_cons_zero,List.set_cons_succ]
     refine wpAnyH_ready (rs:=[12]) zK zS ?_;refine AllReadyH.cons rfl (fun K hK=>?_) ?_
     ·go_simp
      first
       |(refine HL1.out.mono ?_;rintro e W1 ⟨a1,c1,rfl,ho1,hcap1,hb1⟩;have uQ:=(HBD.out.below' hb1).rules;obtain⟨uQ1,uQ2⟩:=uQ;have uR:=(HSD.out.below' hb1).rules;obtain⟨uR1,uR2⟩:=uR;have HB1:=zh hb1;have HO1:=zh ho1;clear hb1 ho1)
       |(refine(HL2.out _ HB1.out).mono ?_;rintro e W2 ⟨a2,c2,rfl,ho2,hcap2,hb2⟩;have uQ:=((HBD.out.below' HB1.out).below' hb2).rules;obtain⟨uS1,uS2⟩:=uQ;have uR:=((HSD.out.below' HB1.out).below' hb2).rules;obtain⟨uT1,uT2⟩:=uR;have HB2:=zh hb2;have HO2:=zh ho2;clear hb2 ho2)
      refine hK.out _ _ ?_ (fun hh14=>?_)
      ·((try dsimp only);go_keep)
      clear hK K
      try simp only[Act.put,List.setIfInBounds_toArray,List.set_cons_zero,List.set_cons_succ]
      refine wpAnyH_ready (rs:=[19]) zK zS ?_;refine AllReadyH.cons rfl (fun K hK=>?_) ?_
      ·go_simp
       first
        |(refine HL1.out.mono ?_;rintro e W1 ⟨a1,c1,rfl,ho1,hcap1,hb1⟩;have uQ:=(HBD.out.below' hb1).rules;obtain⟨uQ1,uQ2⟩:=uQ;have uR:=(HSD.out.below' hb1).rules;obtain⟨uR1,uR2⟩:=uR;have HB1:=zh hb1;have HO1:=zh ho1;clear hb1 ho1)
        |(refine(HL2.out _ HB1.out).mono ?_;rintro e W2 ⟨a2,c2,rfl,ho2,hcap2,hb2⟩;have uQ:=((HBD.out.below' HB1.out).below' hb2).rules;obtain⟨uS1,uS2⟩:=uQ;have uR:=((HSD.out.below' HB1.out).below' hb2).rules;obtain⟨uT1,uT2⟩:=uR;have HB2:=zh hb2;have HO2:=zh ho2;clear hb2 ho2)
       refine hK.out _ _ ?_ (fun hh15=>?_)
       ·((try dsimp only);go_keep)
       clear hK K
       try simp only[Act.put,List.setIfInBounds_toArray,List.set_cons_zero,List.set_cons_succ]
       refine tH 20 hh15 ?_;refine tH 21 hh15 ?_;refine wpAnyH_ready (rs:=[22]) zK zS ?_;refine AllReadyH.cons rfl (fun K hK=>?_) ?_
       ·go_simp
        refine hK.out _ _ ?_ (fun hh16=>?_)
        ·((try dsimp only);go_keep)
        clear hK K
        try simp only[Act.put,List.setIfInBounds_toArray,List.set_cons_zero,List.set_cons_succ]
        refine tH 23 hh16 ?_;refine tH 24 hh16 ?_;refine wpAnyH_ready (rs:=[25]) zK zS ?_;refine AllReadyH.cons rfl (fun K hK=>?_) ?_
        ·go_simp
         refine hK.out _ _ ?_ (fun hh17=>?_)
         ·((try dsimp only);go_keep)
         clear hK K
         try simp only[Act.put,List.setIfInBounds_toArray,List.set_cons_zero,List.set_cons_succ]
         refine wpAnyH_done zK ?_ _
         go_wp2_with fail
         go_roundw
         case rel=>
          have hb12:Below wr.heap.size wr W2:=((Below.refl _ wr).drew).trans (show Below wr.heap.size wr.drew W2 from HB1.out.trans (HB2.out.mono HB1.out.size));refine⟨k+1,_,zO,zN,partsOwn_step HS.out HP.out hb12 (HO1.out.below HB2.out) (HO2.out.less HB1.out.size) hcap1 hcap2,?_,?_,?_⟩
          ·exact((H0.out.below' hb12).far zT _).far zT _
          ·exact((H1.out.below' hb12).far zT _).far zT _
          ·exact((HB.out.trans (hb12.mono HB.out.size)).setCell zT _).setCell zT _
         case measure=>exact zJ
        exact AllReadyH.nil
       exact AllReadyH.nil
      exact AllReadyH.nil
     exact AllReadyH.nil
    exact AllReadyH.nil
   exact AllReadyH.nil
  ·have hk':k=c.parts.length:=by omega
   subst hk';have hst:AftSt c w c.parts.length PB pc' c.parts wr:=⟨H0.out,H1.out,⟨cs,_,HS.out.toB rfl⟩,HB.out⟩
   have HA:=zh hst;clear hst HS H0 H1 HB u01 u02 hk hlt cs
   go_upto_region 8 with fail
   go_wp2_with fail
   go_loopw [56] (fun i wr=>∃(k:Nat) (d:Cs),k≤s.length∧i = .int .i64 k∧aftTo c l s fs k=some d∧d.ware=c.ware∧d.limit=c.limit∧d.by_=c.by_∧d.parts.length=c.parts.length∧AftSt c w c.parts.length PB pc' d.parts wr) (fun i _=>s.length-(intOf i).toNat)
   case atStart=>exact⟨0,c,Nat.zero_le _,rfl,rfl,rfl,rfl,rfl,rfl,HA.out⟩
   case round=>
    obtain⟨k,d,hk,rfl,hto,hd1,hd2,hd3,hdl,hst⟩:=hrel
    by_cases hlt:k<s.length
    ·obtain⟨v,hv⟩:=get_of_lt s hlt;obtain⟨p,f,hp,hf,hfc⟩:=HSS.out k v hv;obtain⟨hr,⟨hp0,hp1⟩,hcn⟩:=(probes_ok HPR.out).2.2 p (List.mem_of_getElem? hp);obtain⟨pi,hpi⟩:=Int.eq_ofNat_of_zero_le hp0;have hil:pi<d.parts.length:=by omega
     obtain⟨q,hq⟩:=get_of_lt d.parts hil;have hvl:v<l.length:=(List.getElem?_eq_some_iff.1 hp).1;have hvn:(v:Int)<(l.length:Int):=by omega
     have hkn:(k:Int)<(s.length:Int):=by omega
     have hkf:(k:Int)<(fs.length:Int):=by have:=HFL.out;omega
     have hin:(pi:Int)<(c.parts.length:Int):=by omega
     have hvi:(natInts s)[k]?=some (v:Int):=by simp[natInts,hv]
     have hfi:(natInts fs)[k]?=some (f:Int):=by simp[natInts,hf]
     obtain⟨b,o,rfl,hb⟩:=HSI.out.base (by simp[natInts];omega);obtain⟨b2,o2,rfl,hb2⟩:=HFI.out.base (by have:=HFL.out;simp[natInts];omega);obtain⟨g,e,p',rfl,hp',hG⟩:=HL.out.probes.at_ hvl;rw[hp] at hp';cases hp';have c1:=below_cell hst.old (hb _ _ hvi);have c5:=below_cell hst.old (hb2 _ _ hfi);obtain⟨p0,p1,p2,p3⟩:=(hG.below hst.old).open;rw[hpi] at p1;have e1:=(HL.out.below hst.old).cells;have hstp:=stepsOf_at hfc;obtain⟨cn,hcn⟩:=zx ((stepsOf (spanOf c p) p.width).length);have hfn:f<cn:=by rw[←hcn];exact(List.getElem?_eq_some_iff.1 hstp).1
     have hfi:(f:Int)<(cn:Int):=by omega
     obtain⟨lo,hlo⟩:=zx ((stepAt (spanOf c p) p.width f).1);obtain⟨hi,hhi⟩:=zx ((stepAt (spanOf c p) p.width f).2);obtain⟨hrc0,hrc1⟩:=rangeCells_at hstp;rw[hlo] at hrc0;rw[hhi] at hrc1;have hstep:aftTo c l s fs (k+1)=if(spanOf (narrowC d pi lo hi p.id) p).low≤(spanOf (narrowC d pi lo hi p.id) p).high then some (narrowC d pi lo hi p.id) else none:=by
      rw[aftTo_step hto hv hf hp,aftStep_eq,narrowOf,hlo,hhi,hpi];rfl
     have hspan:spanOf (narrowC d pi lo hi p.id) p=(narrowP lo hi p.id q).span:=spanOf_at (by
      have:=narrow_at (i:=pi) (low:=lo) (high:=hi) (id:=p.id) hq;rw[if_pos rfl] at this;rw[hpi];exact this)
     rw[hspan] at hstep;have HST:=zh (fun(W:World) (hW:Below wr.heap.size wr W)=>labSteps_any HPR.out v p hp W (HL.out.below (hst.old.trans (hW.mono hst.old.size))));rw[show StepsPost (stepsOf (spanOf c p) p.width)=StepsPost (stepsOf (spanOf c p) p.width) from rfl] at HST;have HSTEP:=zh hstep;have HRC:=zh (And.intro hrc0 hrc1);have HQ:=zh hq;have HA2:=zh hst;have HA2L:=zh hst.lt;have HD:=zh (And.intro hd1 (And.intro hd2 (And.intro hd3 hdl)));have HCN:=zh hcn;have HC5:=zh c5;clear hto hd1 hd2 hd3 hdl hst hp hr hp0 hp1 hil hq hvi hfi hb hb2 hG hstp hfc hrc0 hrc1 hlo hhi hstep hspan hcn c5;have hfi:(f:Int)<(cn:Int):=by omega
     go_upto_region 12 with fail
     obtain⟨w5,hw5⟩:=zx (wr.alloc (.cells #[.int .i64 p.id,.int .i64 (pi:Int),.int .i64 p.width,.int .i64 p.cost] 93));simp only[hw5];have hs5:w5.heap.size=wr.heap.size+1:=by rw[←hw5];simp
     have hB5:Below wr.heap.size wr w5:=by rw[←hw5];go_grown
     have hg1:Box w5 wr.heap.size #[.int .i64 p.id,.int .i64 (pi:Int),.int .i64 p.width,.int .i64 p.cost] 93:=by rw[←hw5];exact Box.new _ _ _
     clear hw5 p0 p1 p2 p3 c1 e1;have hA5:=HA2.out.below hB5;have hc5:w5.cell? ⟨b2,o2+k,none⟩=some (.int .i64 (f:Int)):=below_cell hB5 HC5.out;have k0:∀A,Below w5.heap.size w5 A→(∀j,A.cell? ⟨w.heap.size+1,j,none⟩=(#[.string c.ware,.int .i64 c.limit,.int .i64 c.by_,.slice (some ⟨PB,0,none⟩) c.parts.length pc']:Array Value)[j]?)∧A.cell? ⟨b2,o2+k,none⟩=some (.int .i64 (f:Int)) ∧
      (∀j,A.cell? ⟨wr.heap.size,j,none⟩=(#[.int .i64 p.id,.int .i64 (pi:Int),.int .i64 p.width,.int .i64 p.cost]:Array Value)[j]?):=fun A hA=>⟨(hA5.below hA).box.cell,below_cell hA hc5,(hg1.below' hA).cell⟩
     have K0:=zh k0;have HA5:=zh hA5;have HG1:=zh hg1;have HB5:=zh hB5;have HS5:=zh hs5;clear k0 hA5 hg1 hc5 hB5 hs5 HC5 HA2
     go_cut [13,14] (fun s13 s14 wx=>∃G,s13 = .pointer (some ⟨G,0,none⟩)∧s14 = .pointer (some ⟨PB,pi*8+1,none⟩)∧Box wx G #[.int .i64 lo,.int .i64 hi] 164∧Below w5.heap.size w5 wx∧w5.heap.size≤G)
     case first=>
      refine wp_region_L (fun A=>Below w5.heap.size w5 A) 17 zK ?_;have hSS:Below w5.heap.size w5 w5.drew:=(Below.refl _ w5).drew;refine tM K0 0 hSS ?_;refine tM K0 1 hSS ?_;refine tM K0 3 hSS ?_;refine tM K0 4 hSS ?_;refine tM K0 5 hSS ?_;refine tM K0 6 hSS ?_;refine tM K0 9 hSS ?_;refine tM K0 10 hSS ?_;refine tM K0 11 hSS ?_;refine tM K0 12 hSS ?_;refine tM K0 13 hSS ?_;refine tM K0 14 hSS ?_;refine anyL_two (i:=2) (j:=15) zK ?_ ?_
      ·refine wpOp_call (f:=137) (args:=#[.pointer (some ⟨t,0,none⟩),.int .i64 v]) rfl (by rfl) ?_ (HST.out w5.drew (HB5.out.trans (hSS.mono HB5.out.size))) ?_
       ·go_simp
       rintro e2 w6 ⟨v6,rfl,ho,hb⟩;have hSS:Below w5.heap.size w5 w6:=hSS.trans hb;refine⟨_,rfl,.inr hSS,?_⟩
       try simp only[pZ]
       obtain⟨a6,cap6,rfl,hr6,hcap6⟩:=ownsRow_own ho;obtain⟨b6,o6,rfl,hb6,hx0,-⟩:=hr6 _ _ HRC.out.1;obtain⟨b6',o6',he6,-,hx1,-⟩:=hr6 _ _ HRC.out.2;cases he6;rw[←Nat.add_assoc] at hx1;rw[HCN.out];refine tM K0 7 hSS ?_;refine anyL_two (i:=8) (j:=15) zK ?_ ?_
       ·refine wpOp_run (v:=.agg #[.int .i64 lo,.int .i64 hi]) (w':=w6) rfl (by rfl) ?_ ⟨.inr hSS,?_⟩
        ·go_simp
         try with_reducible rfl
        try simp only[pZ]
        have hal:Below w6.heap.size w6 (w6.alloc (.cells #[.int .i64 0,.int .i64 0] 164)):=(Below.refl _ w6).alloc (Nat.le_refl _) _;have hSS8:Below w5.heap.size w5 (w6.alloc (.cells #[.int .i64 0,.int .i64 0] 164)):=hSS.trans (hal.mono hSS.size);refine anyL_run (i:=15) (v:=.pointer (some ⟨w6.heap.size,0,none⟩)) (w':=w6.alloc (.cells #[.int .i64 0,.int .i64 0] 164)) rfl zK (by rfl) ?_ (.inr hSS8) ?_
        ·go_simp
         try with_reducible rfl
        try simp only[pZ]
        obtain⟨G,hGe⟩:=zx (w6.heap.size);have hG8:Box (w6.alloc (.cells #[.int .i64 0,.int .i64 0] 164)) G #[.int .i64 0,.int .i64 0] 164:=Box.new' hGe.symm;have hGl:w5.heap.size≤G:=by rw[←hGe];exact hSS.size
        rw[hGe];generalize w6.alloc (.cells #[.int .i64 0,.int .i64 0] 164)=w8 at *;clear hal;have hG9:Box ((w8.setCell ⟨G,0,none⟩ (.int .i64 lo)).setCell ⟨G,1,none⟩ (.int .i64 hi)) G #[.int .i64 lo,.int .i64 hi] 164:=(hG8.set_ 0 (.int .i64 lo)).set_ 1 (.int .i64 hi);have hSS9:Below w5.heap.size w5 ((w8.setCell ⟨G,0,none⟩ (.int .i64 lo)).setCell ⟨G,1,none⟩ (.int .i64 hi)):=(hSS8.setCell (by simpa using hGl) _).setCell (by simpa using hGl) _;obtain⟨u1,u2⟩:=hG8.rules;refine anyL_skip (i:=16) (w':=(w8.setCell ⟨G,0,none⟩ (.int .i64 lo)).setCell ⟨G,1,none⟩ (.int .i64 hi)) rfl zK (by rfl) ?_ (.inr hSS9) ?_
        ·go_simp
         try with_reducible rfl
        try simp only[pZ]
        generalize (w8.setCell ⟨G,0,none⟩ (.int .i64 lo)).setCell ⟨G,1,none⟩ (.int .i64 hi)=w9 at *;refine anyL_run (i:=17) (v:=.pointer (some ⟨PB,pi*8+1,none⟩)) (w':=w9) rfl zK (by rfl) (by go_simp) (.inl rfl) ?_
        try simp only[pZ]
        refine anyL_done zK ?_ _;have HG9:=zh hG9;have HSS9:=zh hSS9;have HGL:=zh hGl;clear hG9 hSS9 hGl hSS hSS8 hG8 u1 u2 hx0 hx1 ho hb hr6 HST K0
        go_wp2_with fail
        go_meet
        exact⟨G,rfl,rfl,HG9.out,HSS9.out,HGL.out⟩
       ·have hal:Below w6.heap.size w6 (w6.alloc (.cells #[.int .i64 0,.int .i64 0] 164)):=(Below.refl _ w6).alloc (Nat.le_refl _) _;have hSS8:Below w5.heap.size w5 (w6.alloc (.cells #[.int .i64 0,.int .i64 0] 164)):=hSS.trans (hal.mono hSS.size);refine wpOp_run (v:=.pointer (some ⟨w6.heap.size,0,none⟩)) (w':=w6.alloc (.cells #[.int .i64 0,.int .i64 0] 164)) rfl (by rfl) ?_ ⟨.inr hSS8,?_⟩
        ·go_simp
         try with_reducible rfl
        try simp only[pZ]
        obtain⟨G,hGe⟩:=zx (w6.heap.size);have hG8:Box (w6.alloc (.cells #[.int .i64 0,.int .i64 0] 164)) G #[.int .i64 0,.int .i64 0] 164:=Box.new' hGe.symm;have hGl:w5.heap.size≤G:=by rw[←hGe];exact hSS.size
        rw[hGe];have hx0:=below_cell hal hx0;have hx1:=below_cell hal hx1;generalize w6.alloc (.cells #[.int .i64 0,.int .i64 0] 164)=w8 at *;clear hal;refine anyL_run (i:=8) (v:=.agg #[.int .i64 lo,.int .i64 hi]) (w':=w8) rfl zK (by rfl) ?_ (.inr hSS8) ?_
        ·go_simp
         try with_reducible rfl
        try simp only[pZ]
        have hG9:Box ((w8.setCell ⟨G,0,none⟩ (.int .i64 lo)).setCell ⟨G,1,none⟩ (.int .i64 hi)) G #[.int .i64 lo,.int .i64 hi] 164:=(hG8.set_ 0 (.int .i64 lo)).set_ 1 (.int .i64 hi);have hSS9:Below w5.heap.size w5 ((w8.setCell ⟨G,0,none⟩ (.int .i64 lo)).setCell ⟨G,1,none⟩ (.int .i64 hi)):=(hSS8.setCell (by simpa using hGl) _).setCell (by simpa using hGl) _;obtain⟨u1,u2⟩:=hG8.rules;refine anyL_skip (i:=16) (w':=(w8.setCell ⟨G,0,none⟩ (.int .i64 lo)).setCell ⟨G,1,none⟩ (.int .i64 hi)) rfl zK (by rfl) ?_ (.inr hSS9) ?_
        ·go_simp
         try with_reducible rfl
        try simp only[pZ]
        generalize (w8.setCell ⟨G,0,none⟩ (.int .i64 lo)).setCell ⟨G,1,none⟩ (.int .i64 hi)=w9 at *;refine anyL_run (i:=17) (v:=.pointer (some ⟨PB,pi*8+1,none⟩)) (w':=w9) rfl zK (by rfl) (by go_simp) (.inl rfl) ?_
        try simp only[pZ]
        refine anyL_done zK ?_ _;have HG9:=zh hG9;have HSS9:=zh hSS9;have HGL:=zh hGl;clear hG9 hSS9 hGl hSS hSS8 hG8 u1 u2 hx0 hx1 ho hb hr6 HST K0
        go_wp2_with fail
        go_meet
        exact⟨G,rfl,rfl,HG9.out,HSS9.out,HGL.out⟩
      ·have hal:Below w5.drew.heap.size w5.drew (w5.drew.alloc (.cells #[.int .i64 0,.int .i64 0] 164)):=(Below.refl _ w5.drew).alloc (Nat.le_refl _) _;have hSS8:Below w5.heap.size w5 (w5.drew.alloc (.cells #[.int .i64 0,.int .i64 0] 164)):=hSS.trans (hal.mono hSS.size);refine wpOp_run (v:=.pointer (some ⟨w5.drew.heap.size,0,none⟩)) (w':=w5.drew.alloc (.cells #[.int .i64 0,.int .i64 0] 164)) rfl (by rfl) ?_ ⟨.inr hSS8,?_⟩
       ·go_simp
        try with_reducible rfl
       try simp only[pZ]
       obtain⟨G,hGe⟩:=zx (w5.drew.heap.size);have hG8:Box (w5.drew.alloc (.cells #[.int .i64 0,.int .i64 0] 164)) G #[.int .i64 0,.int .i64 0] 164:=Box.new' hGe.symm;have hGl:w5.heap.size≤G:=by rw[←hGe];exact hSS.size
       rw[hGe];generalize w5.drew.alloc (.cells #[.int .i64 0,.int .i64 0] 164)=w7 at *;clear hal;have hSS7:=hSS8;have hG7:=hG8;clear hSS8 hG8;refine anyL_call (i:=2) (f:=137) (args:=#[.pointer (some ⟨t,0,none⟩),.int .i64 v]) rfl zK (by rfl) ?_ (HST.out w7 (HB5.out.trans (hSS7.mono HB5.out.size))) ?_
       ·go_simp
       rintro e2 w8 ⟨v6,rfl,ho,hb⟩;have hSS8:Below w5.heap.size w5 w8:=hSS7.trans (hb.mono hSS7.size);have hG8:=hG7.below' hb;refine .inl ⟨_,rfl,.inr hSS8,?_⟩
       try simp only[pZ]
       obtain⟨a6,cap6,rfl,hr6,hcap6⟩:=ownsRow_own ho;obtain⟨b6,o6,rfl,hb6,hx0,-⟩:=hr6 _ _ HRC.out.1;obtain⟨b6',o6',he6,-,hx1,-⟩:=hr6 _ _ HRC.out.2;cases he6;rw[←Nat.add_assoc] at hx1;rw[HCN.out];have hSSo:=hSS;have hSS:=hSS8;refine tM K0 7 hSS ?_;refine anyL_run (i:=8) (v:=.agg #[.int .i64 lo,.int .i64 hi]) (w':=w8) rfl zK (by rfl) ?_ (.inr hSS8) ?_
       ·go_simp
        try with_reducible rfl
       try simp only[pZ]
       have hG9:Box ((w8.setCell ⟨G,0,none⟩ (.int .i64 lo)).setCell ⟨G,1,none⟩ (.int .i64 hi)) G #[.int .i64 lo,.int .i64 hi] 164:=(hG8.set_ 0 (.int .i64 lo)).set_ 1 (.int .i64 hi);have hSS9:Below w5.heap.size w5 ((w8.setCell ⟨G,0,none⟩ (.int .i64 lo)).setCell ⟨G,1,none⟩ (.int .i64 hi)):=(hSS8.setCell (by simpa using hGl) _).setCell (by simpa using hGl) _;obtain⟨u1,u2⟩:=hG8.rules;refine anyL_skip (i:=16) (w':=(w8.setCell ⟨G,0,none⟩ (.int .i64 lo)).setCell ⟨G,1,none⟩ (.int .i64 hi)) rfl zK (by rfl) ?_ (.inr hSS9) ?_
       ·go_simp
        try with_reducible rfl
       try simp only[pZ]
       generalize (w8.setCell ⟨G,0,none⟩ (.int .i64 lo)).setCell ⟨G,1,none⟩ (.int .i64 hi)=w9 at *;refine anyL_run (i:=17) (v:=.pointer (some ⟨PB,pi*8+1,none⟩)) (w':=w9) rfl zK (by rfl) (by go_simp) (.inl rfl) ?_
       try simp only[pZ]
       refine anyL_done zK ?_ _;have HG9:=zh hG9;have HSS9:=zh hSS9;have HGL:=zh hGl;clear hG9 hSS9 hGl hSS hSS8 hG8 u1 u2 hx0 hx1 ho hb hr6 HST K0
       go_wp2_with fail
       go_meet
       exact⟨G,rfl,rfl,HG9.out,HSS9.out,HGL.out⟩
     case rest=>
      obtain⟨G,rfl,rfl,hG9,hSS9,hGl⟩:=hcut;have hPB:PB<wr.heap.size:=HA2L.out;have hs5:=HS5.out;have hn1:wr.heap.size≠PB:=by omega
      have hn2:G≠PB:=by omega
      have hn3:PB≠wr.heap.size:=by omega
      have hn4:PB≠G:=by omega
      have hin:AftIn c w c.parts.length PB pc' d.parts G wr.heap.size #[.int .i64 lo,.int .i64 hi] #[.int .i64 p.id,.int .i64 (pi:Int),.int .i64 p.width,.int .i64 p.cost] wc:=⟨HA5.out.below hSS9,hG9,HG1.out.below' hSS9⟩
      have HIN:=zh hin;clear hG9 hSS9 hGl HST K0 hin hs5 hPB;have c12:∀j,wc.cell? ⟨wr.heap.size,j,none⟩=(#[.int .i64 p.id,.int .i64 (pi:Int),.int .i64 p.width,.int .i64 p.cost]:Array Value)[j]?:=HIN.out.p.cell;have c13:∀j,wc.cell? ⟨G,j,none⟩=(#[.int .i64 lo,.int .i64 hi]:Array Value)[j]?:=HIN.out.g.cell;obtain⟨q1,q2,q3,q4⟩:=HIN.out.st.at_ HQ.out;have fr:=HIN.out.st.free;obtain⟨b1,hb1⟩:=zx (decide (q.span.low<lo))
      go_upto_region 13 with fail
      go_quiet (fail)
      have HBA:=zh hb1;clear hb1
      go_upto_if 89 with (fail)
      go_cut [13] (fun s13 wx=>s13 = .pointer (some ⟨G,0,none⟩)∧AftIn c w c.parts.length PB pc' (lowIf b1 pi lo p.id d.parts) G wr.heap.size #[.int .i64 lo,.int .i64 hi] #[.int .i64 p.id,.int .i64 (pi:Int),.int .i64 p.width,.int .i64 p.cost] wx)
      case first=>
       cases b1
       ·go_wp2_with fail
        go_meet
        exact⟨rfl,HIN.out.drewN _⟩
       ·go_upto_region 14 with fail
        go_region_held3 (fun w'=>w'.cell? ⟨G,0,none⟩=some (.int .i64 lo)∧w'.cell? ⟨wr.heap.size,0,none⟩=some (.int .i64 p.id)) (go_keep) (fail)
        go_wp2_with fail
        go_meet
        exact⟨rfl,(HIN.out.drewN _).low hn2 hn1 HQ.out⟩
      case rest=>
       obtain⟨rfl,hin⟩:=hcut;have HIN:=zh hin;have HPX:=zh (lowIf_at (b:=b1) (v:=lo) (id:=p.id) HQ.out);clear hin c12 c13 q1 q2 q3 q4 fr;have c12:∀j,wc.cell? ⟨wr.heap.size,j,none⟩=(#[.int .i64 p.id,.int .i64 (pi:Int),.int .i64 p.width,.int .i64 p.cost]:Array Value)[j]?:=HIN.out.p.cell;have c13:∀j,wc.cell? ⟨G,j,none⟩=(#[.int .i64 lo,.int .i64 hi]:Array Value)[j]?:=HIN.out.g.cell;obtain⟨y1,y2,y3,y4⟩:=HIN.out.st.at_ HPX.out;rw[lowP_high] at y2;have yb:wc.cell? ⟨PB,pi*8+1+1,none⟩=some (.int .i64 q.span.high):=y2;have yb2:wc.cell? ⟨PB,pi*8+1+3,none⟩=some (.int .i64 (lowP b1 lo p.id q).span.highBy):=y4;have fr:=HIN.out.st.free;clear y2 y4;obtain⟨b2,hb2⟩:=zx (decide (hi<q.span.high))
       go_upto_region 15 with fail
       go_quiet (fail)
       have HBB:=zh hb2;clear hb2
       go_upto_if 106 with (fail)
       go_cut [13] (fun s13 wx=>s13 = .pointer (some ⟨G,0,none⟩)∧AftIn c w c.parts.length PB pc' (highIf b2 pi hi p.id (lowIf b1 pi lo p.id d.parts)) G wr.heap.size #[.int .i64 lo,.int .i64 hi] #[.int .i64 p.id,.int .i64 (pi:Int),.int .i64 p.width,.int .i64 p.cost] wx)
       case first=>
        cases b2
        ·go_wp2_with fail
         go_meet
         exact⟨rfl,HIN.out.drewN _⟩
        ·go_upto_region 16 with fail
         go_region_held3 (fun w'=>w'.cell? ⟨G,1,none⟩=some (.int .i64 hi)∧w'.cell? ⟨wr.heap.size,0,none⟩=some (.int .i64 p.id)) (go_keep) (fail)
         go_wp2_with fail
         go_meet
         exact⟨rfl,(HIN.out.drewN _).high hn2 hn1 HPX.out⟩
       case rest=>
        obtain⟨rfl,hin⟩:=hcut;rw[two_narrow HQ.out HBA.out HBB.out] at hin;have HAF:=zh hin.st;clear hin c12 c13 y1 y3 yb yb2 fr HIN;have HPF:=zh (show(narrowC d pi lo hi p.id).parts[pi]?=some (narrowP lo hi p.id q) by have:=narrow_at (i:=pi) (low:=lo) (high:=hi) (id:=p.id) HQ.out;rw[if_pos rfl] at this;exact this);obtain⟨x1,x2,-,-⟩:=HAF.out.at_ HPF.out;have hsp:=HSTEP.out;obtain⟨lo2,hl2⟩:=zx ((narrowP lo hi p.id q).span.low);obtain⟨hi2,hh2⟩:=zx ((narrowP lo hi p.id q).span.high);rw[hl2] at x1;rw[hh2] at x2;rw[hl2,hh2] at hsp;have xb:wc.cell? ⟨PB,pi*8+1+1,none⟩=some (.int .i64 hi2):=x2;have HSP:=zh hsp;have RT:=HAF.out.res.rules;have e3:(∀i,wc.cell? ⟨w.heap.size,i,none⟩=(#[.string ⟨#[]⟩,.int .i64 0,.int .i64 0,.slice none 0 0]:Array Value)[i]?)∧∀i,wc.frozen? ⟨w.heap.size,i,none⟩=false:=RT
        clear RT hsp hl2 hh2 x2
        go_upto_region 17 with fail
        by_cases hbad:hi2<lo2
        ·go_quiet (fail)
         go_wp2_with fail
         refine bodyPost_ret (results_cell_tmp rfl rfl (run_loadVar_row _ _ 24 24 _ (0,0) _ ((((HAF.out.res.set_ 0 _).set_ 1 _).set_ 2 _).set_ 3 _) Tryz.underlying24 rfl case_size)) rfl ?_;refine⟨below_drewN ((((HAF.out.old.setCell zS _).setCell zS _).setCell zS _).setCell zS _) _,.inl ⟨aftTo_none (k:=k+1) (by rw[HSP.out,if_neg zO]),rfl⟩⟩
        ·go_quiet (fail)
         go_wp2_with fail
         go_roundw
         case rel=>exact⟨k+1,narrowC d pi lo hi p.id,zO,zN,by rw[HSP.out,if_pos zO],HD.out.1,HD.out.2.1,HD.out.2.2.1,(narrow_len _ _ _ _ _).trans HD.out.2.2.2,HAF.out.drewN _⟩
         case measure=>exact zJ
    ·have hks:s.length≤k:=by omega
     rw[aftTo_all hks] at hto;have e0:=hst.box.cell;have e3:=hst.res.rules;have HT:=zh hto;have HA2:=zh hst;have HD:=zh (And.intro hd1 (And.intro hd2 (And.intro hd3 hdl)));clear hto hst hd1 hd2 hd3 hdl
     go_wp2_with fail
     refine bodyPost_ret (results_cell_tmp rfl rfl (run_loadVar_row _ _ 24 24 _ (0,0) _ ((((HA2.out.res.set_ 0 _).set_ 1 _).set_ 2 _).set_ 3 _) Tryz.underlying24 rfl case_size)) rfl ?_;have hfar:=HA2.out.far;obtain⟨cells',M,hpb⟩:=HA2.out.parts;have hpb':=partsB_farP (partsB_farP (partsB_farP (partsB_farP hpb (g:=w.heap.size) (o:=0) zO (.string c.ware)) (g:=w.heap.size) (o:=1) zO (.int .i64 c.limit)) (g:=w.heap.size) (o:=2) zO (.int .i64 c.by_)) (g:=w.heap.size) (o:=3) zO (.slice (some ⟨PB,0,none⟩) c.parts.length pc');obtain⟨hd1,hd2,hd3,hdl⟩:=HD.out;refine⟨(((HA2.out.old.setCell zS _).setCell zS _).setCell zS _).setCell zS _,.inr ⟨d,some ⟨PB,0,none⟩,pc',HT.out,by rw[hd1,hd2,hd3,hdl];rfl,by rw[hdl];exact HPC.out,.inl ⟨PB,cells',rfl,hpb'.toOwn rfl (Nat.le_refl _)⟩⟩⟩
end
