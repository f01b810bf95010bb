/- The walks and plain laws of: MQCollect. No condition. -/
import Derived.Test.YtjgldeeianionaaGreatS13
import Derived.Test.YtjgldeeianionaaGreatS22
import Derived.Test.YtjgldeeianionaaGreatS25
import Derived.Test.YtjgldeeianionaaGreatS26
import Derived.Test.YtjgldeeianionaaGreatS01
set_option maxHeartbeats 4000000
set_option maxRecDepth 100000
set_option linter.unusedSimpArgs false
set_option linter.unusedVariables false
namespace Go.Proofs.YtjgldeeianionaaGreat
open Go.RowKit
attribute [local go_sem] Oper.semAt_some
theorem RowsG.keepB {T:TypeId}{K Q:Nat→Prop}{B:Nat}{W W':World}{v:Value}{L:List (List Value)}(h:RowsG T B Q W v L)(hk:Keep K W W')(hK:∀k,B≤k→K k)(hQ:∀b,Q b→B≤b):RowsG T B Q W' v L:=by
 obtain⟨zs,h1,h2,h3⟩:=h
 exact⟨zs,h1,ownsRow_keep h2 hk hK,fun z hz=>by
  obtain⟨a1,a2,a3⟩:=h3 z hz
  exact⟨row_keep a1 hk (fun b o ha hl=>hK b (hQ b (a3 b o ha hl).2)),a2,a3⟩⟩
structure CoI (w:World) (pre:List (List Nat)) (A:World):Prop where
 old:Below w.heap.size w A
 out:∃v,Box A w.heap.size #[v] 49∧RowsG 26 (w.heap.size+3) (fun b=>w.heap.size+3≤b) A v (rowsN pre)
theorem CoI.below {w A B:World}{pre:List (List Nat)}(h:CoI w pre A)(hb:Below A.heap.size A B):CoI w pre B:=by
 obtain⟨v,h1,h2⟩:=h.out
 exact⟨h.old.trans (hb.mono h.old.size),v,h1.below' hb,h2.below hb⟩
def CoAs (w:World)(gf:Nat)(lb:Array Value)(x:List Nat)(_:Array Value)(act:Act)(A:World):Prop:=
 ∃fa fc,RowOwn (w.heap.size+3) A fa ((natInts x).map (Value.int .i64))∧x.length≤fc∧(∀b o,fa=some ⟨b,o,none⟩→0<x.length→¬SeC w.heap.size A b) ∧
  act={tmps:=#[.slice none 0 0,.func (.func gf) #[] lb,.pointer (some ⟨w.heap.size,0,none⟩),undef,.slice none 0 0,.slice fa x.length fc,.func (.func gf) #[] lb,.slice fa x.length fc,undef,undef,undef,undef,undef],defers:=[]}
theorem appendSeq_any {t:Nat}{c:Cs}{pa:Option Addr}{pc:Nat}{l:List Prb}{qa:Option Addr}{qc:Nat}(hpr:probesErr c l=0)(sa:Option Addr)(s:List Nat)(sc TB SB:Nat)(hs:∀v∈s,v<l.length)(hsl:s.length≤1000)(hol:(outsOf (cntsOf c l s)).length≤100000)(w:World)(h:LabAt w t c pa pc l qa qc)(hS:Ints w sa (natInts s))(htb:Box w TB #[.pointer (some ⟨t,0,none⟩)] 104)(hsb:Box w SB #[.slice sa s.length sc] 26):
 Calls Tryz.prog 186 #[.slice none 0 0,.func (.func 176) #[] #[.pointer (some ⟨SB,0,none⟩),.pointer (some ⟨TB,0,none⟩)]] w fun e w'=>∃a cap,e = .returned (.slice a (outsOf (cntsOf c l s)).length cap)∧RowsG 26 w.heap.size (fun b=>w.heap.size≤b) w' (.slice a (outsOf (cntsOf c l s)).length cap) (rowsN (outsOf (cntsOf c l s)))∧Below w.heap.size w w':=by
 obtain⟨w1,hw1⟩:=zx (w.alloc (.cells #[.slice none 0 0] 49))
 have gs:w1.heap.size=w.heap.size+1:=by rw[←hw1];simp
 have hB1:Below w.heap.size w w1:=by rw[←hw1];go_grown
 have gI:CoI w [] w1:=⟨hB1,.slice none 0 0,by rw[←hw1];exact Box.new _ _ _,RowsG.nil _ _ _⟩
 have HW1:=zh hw1
 clear hw1
 refine(callsIn_wide (n:=0)).1 (callsIn_of_wp_marks Tryz.func186 rfl trivial ?_ rfl)
 simp only[Tryz.ntmps186,List.size_toArray,List.length_cons,List.length_nil,Nat.reduceAdd,Nat.reduceSub,Array.replicate_succ,Array.replicate_zero,List.push_toArray,List.append_toArray,List.nil_append,List.cons_append]
 gi_upto_region 1 with fail
 simp only[HW1.out]
 gi_wp2_with fail
 have hC3:∀(A:World) (o:Obj),SeC w.heap.size (A.putObj (w1.heap.size+1) o)=SeC w.heap.size A:=fun A o=>by
  funext k
  have e:∀v,Box (A.putObj (w1.heap.size+1) o) w.heap.size #[v] 49=Box A w.heap.size #[v] 49:=fun v=>by
   unfold Box
   rw[World.putObj_heap_other (by omega)]
  simp only[SeC,e]
 refine wpIn_rangeD (gf:=176) (lb:=#[.pointer (some ⟨SB,0,none⟩),.pointer (some ⟨TB,0,none⟩)]) (Rd:=OutRd (w.heap.size+3)) (xs:=outsOf (cntsOf c l s)) rfl (enters_of Tryz.func176 zK rfl)
  (fun o1 o2=>outs_gives (t:=t) (pa:=pa) (pc:=pc) (qa:=qa) (qc:=qc) hpr sa s sc TB SB (w.heap.size+3) hs hsl _ (by simp;omega)) ?ps
  (SeC w.heap.size) (CoI w) (fun _ _ _=>False) ?hC1 ?hC2 hC3 ?hC4 ?hOk ?hI ?hI2 ?hX ?hX2 gI (CoAs w 176 #[.pointer (some ⟨SB,0,none⟩),.pointer (some ⟨TB,0,none⟩)]) ?hAs ?assign ?body ?done ?stop
 case ps=>rintro D x args W ⟨fa,fc,rfl,_⟩;rfl
 case hC1=>
  intro s A B k hi _ hb hk
  obtain⟨v,h1,h2⟩:=hi.out
  rcases hk with rfl|⟨u,hu,he⟩
  ·exact .inl rfl
  ·rw[box_uni hu (h1.below' hb)] at he
   exact .inr ⟨v,h1,he⟩
 case hC2=>
  intro s A k hi _ hk
  obtain⟨v,h1,h2⟩:=hi.out
  rcases hk with rfl|⟨u,hu,he⟩
  ·exact h1.lt
  ·rw[box_uni hu h1] at he
   exact(h2.lt he).2
 case hC4=>
  intro s A hi _
  obtain⟨v,h1,h2⟩:=hi.out
  have hn:∀k,k<w.heap.size+3→k≠w.heap.size→¬SeC w.heap.size A k:=fun k hk hne hc=>by
   rcases hc with rfl|⟨u,hu,he⟩
   ·exact hne rfl
   ·rw[box_uni hu h1] at he
    have:=(h2.lt he).1
    omega
  exact⟨hn _ (by omega) (by omega),hn _ (by omega) (by omega)⟩
 case hOk=>intro rec pre A hi;exact⟨h.below hi.1.old,hS.below hi.1.old,htb.below' hi.1.old,hsb.below' hi.1.old⟩
 case hI=>intro s A B hi hb;exact hi.below hb
 case hI2=>
  intro s A o hi
  have hk:Keep (fun k=>k≠w1.heap.size+1) A (A.putObj (w1.heap.size+1) o):=(Keep.refl _ A).putObj (fun h=>h rfl) _
  obtain⟨v,h1,h2⟩:=hi.out
  exact⟨below_put hi.old (by omega) _,v,hk.heap (by omega) h1,h2.keepB hk (fun k hk=>by omega) (fun b hb=>hb)⟩
 case hX=>intro _ _ _ _ h;exact h.elim
 case hX2=>intro _ _ _ _ h;exact h.elim
 case hAs=>
  rintro x args act A o ⟨fa,fc,h1,h2,h3,h4⟩
  have hk:Keep (fun k=>k≠w1.heap.size+1) A (A.putObj (w1.heap.size+1) o):=(Keep.refl _ A).putObj (fun h=>h rfl) _
  refine⟨fa,fc,rowOwn_keep h1 hk (fun k hk=>by omega),h2,?_,h4⟩
  rw[hC3]
  exact h3
 case assign=>
  rintro l pre x args W Kk hi ⟨fa,fc,rfl,hro,hfc,hnd⟩ hlt hk
  gi_wp2_with fail
  exact hk _ _ ⟨fa,fc,hro,hfc,fun b o e h0 hc=>hnd b o e h0 (.inl hc),rfl⟩ (Below.refl _ _)
 case body=>
  rintro lo pre x args act W hi ⟨fa,fc,hro,hfc,hnd,rfl⟩ hpre hlt rfl hlp
  obtain⟨v,h1,h2⟩:=hi.out
  have hpl:pre.length+1≤1000000:=by
   have:=hpre.length_le
   rw[List.length_append,List.length_singleton] at this
   omega
  have hal:Below W.heap.size W (W.alloc (.cells #[.slice fa x.length fc] 26)):=(Below.refl _ W).alloc (Nat.le_refl _) _
  have hg:Box (W.alloc (.cells #[.slice fa x.length fc] 26)) W.heap.size #[.slice fa (rowN x).length fc] 26:=by rw[rowN_len];exact Box.new _ _ _
  obtain⟨v',U,hrun,hrows,hk,hvb⟩:=(h2.below hal).push (TT:=49) Tryz.underlying49 zK (ra:=fa) (rc:=fc) (x:=rowN x) (hro.row.below hal) (by rw[rowN_len];exact hfc) (fun b o ha h0=>by
   rw[rowN_len] at h0
   obtain⟨y,hy⟩:=get_of_lt x h0
   obtain⟨b',o',e,hB,_⟩:=hro 0 (.int .i64 (y:Int)) (by simp[natInts,hy])
   rw[ha] at e;cases e
   exact⟨fun he=>hnd b o ha h0 (.inr ⟨v,h1,he⟩),hB⟩) hg (by rw[rowsN_len];exact hpl) (by simp;omega)
  have hUo:Box U w.heap.size #[v] 49:=hk.heap (fun he=>by have:=(h2.lt he).1;omega) (h1.below' hal)
  have hkW:Keep (fun k=>v.ownBlock≠some k) W U:=(Keep.of_below' hal).trans hk
  have hn:∀k,v.ownBlock=some k→w.heap.size+3≤k:=fun k hk=>(h2.lt hk).1
  have hKC:Keep (fun k=>¬SeC w.heap.size W k) W U:=hkW.mono fun k (hk:¬SeC w.heap.size W k) he=>hk (.inr ⟨v,h1,he⟩)
  have hB':Below w.heap.size w U:=hi.old.trans ((hkW.mono fun i (hi:i<w.heap.size) he=>by have:=hn _ he;omega).below hi.old.size)
  have hcn:∀k,v'.ownBlock=some k→SeC w.heap.size W k∨W.heap.size≤k:=fun k he=>by
   rcases hvb with e|e
   ·exact .inl (.inr ⟨v,h1,by rw[←e];exact he⟩)
   ·rw[e] at he;cases he;exact .inr (by simp)
  obtain⟨av0,cv0,hve0,_⟩:=h2.at_
  obtain⟨av,cv,hve,_⟩:=hrows.at_
  subst hve0
  subst hve
  have hln:(rowsN pre++[rowN x]).length=(rowsN pre).length+1:=by simp
  rw[hln] at hrun hrows hcn
  have e1:=h1.cell
  have HRN:=zh hrun
  have HROW:=zh hrows
  have HUO:=zh hUo
  have HKC:=zh hKC
  have HBN:=zh hB'
  have HCN:=zh hcn
  obtain⟨z1,z2⟩:=hUo.rules
  have hol1:=h1.lt
  clear hrun hrows hUo hKC hB' hcn hvb hkW hn hk hg hal h2 hro hnd hi
  gi_wp2_with (gi_at_builtin;refine wpListIn_app rfl _ _ _ rfl rfl rfl HRN.out ?_)
  have kS:Keep (fun k=>k≠w.heap.size) U (U.setCell ⟨w.heap.size,0,none⟩ (.slice av ((rowsN pre).length+1) cv)):=(Keep.refl _ U).setCell (.inl (by simp)) _
  refine⟨HKC.out.setCell (.inl (fun h=>h (.inl rfl))) _,fun k hk=>?_,HBN.out.setCell (by simp) _,_,HUO.out.set_ 0 _,?_⟩
  ·rcases hk with rfl|⟨u,hu,he⟩
   ·exact .inl (.inl rfl)
   ·rw[box_uni hu (HUO.out.set_ 0 _)] at he
    exact HCN.out k he
  ·rw[rowsN_snoc]
   exact HROW.out.keepB kS (fun k hk=>by omega) (fun b hb=>hb)
 case done=>
  rintro W hi hD
  obtain⟨v,h1,h2⟩:=hi.out
  obtain⟨a,cap,hve,_⟩:=h2.at_
  rw[rowsN_len] at hve
  subst hve
  have e1:=h1.cell
  have HROW:=zh h2
  have HOLD:=zh hi.old
  have hlt:=h1.lt
  clear h1 h2 hi
  gi_wp2_with fail
  have hk:Keep (fun k=>k≠w1.heap.size) W (W.putObj w1.heap.size (.deferred none)):=(Keep.refl _ W).putObj (fun h=>h rfl) _
  refine⟨by simp,.inl ⟨_,_,rfl,run_takeDeferred (by simpa[gs] using hD),?_⟩⟩
  refine⟨.slice a (outsOf (cntsOf c l s)).length cap,?_,?_⟩
  ·simp[results,go_sem]
  ·exact⟨a,cap,rfl,(HROW.out.keepB hk (fun k hk=>by omega) (fun b hb=>hb)).less (by omega) (fun b hb=>by omega),below_put HOLD.out (by omega) _⟩
 case stop=>intro _ _ _ _ h;exact h.elim
end Go.Proofs.YtjgldeeianionaaGreat
