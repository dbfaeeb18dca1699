/-
 sets.Of.
-/
import Derived.Test.YtbknbcmppdglhaaGreatDoorA0
import Derived.Test.YtbknbcmppdglhaaGreatDoorVP
namespace Go.Proofs.YtbknbcmppdglhaaGreatDoor
set_option linter.unusedSimpArgs false
set_option linter.unusedVariables false
set_option linter.unusedSectionVars false
set_option maxRecDepth 100000
set_option maxHeartbeats 40000000
section
open Go.RowKit Go.Shelf
attribute [local go_sem] Oper.semAt_some iF gH gS fX
def ti(ps:List Int)(bs:List iA)(ls:List iN)(k:Int)(w:World)(e:Ending)(w':World):Prop:=
 ∃v:Nat->Value,e=.returned (.tuple #[.agg #[v 0,v 1,v 2,v 3,v 4,v 5,v 6],.int .i64 (ofE ps bs (fI ls) k)])/\(∀j,j<7->gD w' w.heap.size (v j) ((ofM ps bs (fI ls) k).rows.getD j []))/\Below w.heap.size w w'
def A8(ps:List Int)(bs:List iA)(ls:List iN)(k:Int)(w:World)(e:Ending)(w':World):Prop:=
 ∃s:tW,e=.returned (.tuple #[.agg #[s.v 0,s.v 1,s.v 2,s.v 3,s.v 4,s.v 5,s.v 6],.int .i64 (ofE ps bs (fI ls) k)])/\(∀j,j<7->gD w' w.heap.size (s.v j) ((ofM ps bs (fI ls) k).rows.getD j []))/\Apt (qH s)/\Below w.heap.size w w'
theorem RG:Apt (qH ⟨λ_=>iG,yC⟩):=mq λ_ _ _ _ _ q e=>by cases e
theorem QR(s:tW){W:World}{P:Nat}(h:W.heap[P]? =some (.cells #[s.v 0,s.v 1,s.v 2,s.v 3,s.v 4,s.v 5,s.v 6] 39 (0,0))):W.cell? ⟨P,0,none⟩=some (s.v 0)/\W.cell? ⟨P,1,none⟩=some (s.v 1)/\W.cell? ⟨P,2,none⟩=some (s.v 2)/\W.cell? ⟨P,3,none⟩=some (s.v 3)/\W.cell? ⟨P,4,none⟩=some (s.v 4)/\W.cell? ⟨P,5,none⟩=some (s.v 5)/\W.cell? ⟨P,6,none⟩=some (s.v 6):=by
 refine⟨?_,?_,?_,?_,?_,?_,?_⟩<;>(rw[aZ _ _ _ _ _ _ h];rfl)
theorem ZB(W:World)(B:Nat){j:Nat}(hj:j<7):gD W B iG (yC.rows.getD j []):=by
 have:yC.rows.getD j []= []:=by
  have hcase:j=0\/j=1\/j=2\/j=3\/j=4\/j=5\/j=6:=by omega
  rcases hcase with rfl|rfl|rfl|rfl|rfl|rfl|rfl<;>rfl
 rw[this]
 exact gD.nil _ _
theorem uk(pa:Option Addr)(pn pc:Nat)(ps:List Int)(ba:Option Addr)(bn bc:Nat)(bs:List iA)(ta:Option Addr)(tn tc:Nat)(ls:List iN)(k:Int)(w:World)(hp:iJ w pa pn ps)(h:lY w ba bn bs)(ht:iY w ta tn ls)(hL:qY (fI ls)<=1000000)(hT:Tab w)(hk:I64 k):
  Calls Tryz.prog 11 #[mB pa pn pc ba bn bc,.slice ta tn tc,.int .i64 k] w (A8 ps bs ls k w):=by
 have HPI:=ac hp
 have HB:=ac h
 have HTL:=ac ht
 have HTOT:=ac hL
 have HTB:=ac hT
 have HK:=ac hk
 clear hp h ht hL hT hk
 go_enter Tryz.func11,Tryz.ntmps11
 go_upto_region 1 with (fail)
 obtain⟨w0,hw0⟩:∃w0,w0=(w.alloc (gX pa pn pc ba bn bc)).alloc TJ:=⟨_,rfl⟩
 rw[<-hw0]
 have HB0:Hid (Below w.heap.size w w0):=by rw[hw0];exact fC (fD _ _) (fD _ _)
 have HF0:Hid (w0.heap[w.heap.size]? =some (gX pa pn pc ba bn bc)):=by rw[hw0];exact fB (fD _ _) (ae _ _)
 have HZ0:Hid (w0.heap[w.heap.size+1]? =some TJ):=by
  have:=ae (w.alloc (gX pa pn pc ba bn bc)) TJ;rw[Hid,hw0];simpa using this
 clear hw0
 by_cases hE:uM ps bs (fI ls)=0
 rotate_left
 .have HE:Hid (ofE ps bs (fI ls) k=uM ps bs (fI ls)):=by rw[Hid,ofE,aM hE]
  have HN:=ac hE;have hne:(uM ps bs (fI ls) != 0)=true:=by simpa using hE
  clear hE
  go_wp2_with (first
   |(refine ay (o:=⟨some 11,.load 25 _,_,_,_,_⟩) rfl 25 _ rfl w.heap.size rfl 25 _ (0,0) _ HF0.out aJ rfl gE ?_)
   |(go_at_call 9
     refine(wQ pa pn pc ps ba bn bc bs ta tn tc ls w0 (HPI.out.ext HB0.out) (HB.out.ext HB0.out) (HTL.out.ext HB0.out) HTOT.out (HTB.out.ext HB0.out)).mono ?_;rintro e w1 ⟨v,rs,rfl,hrs,hsi,hap,hb1⟩;obtain⟨av,cv,hav⟩:=iP.form hsi.1;subst hav;have HSI:=ac hsi;have HRS:=ac hrs;have HB1:=ac (fC HB0.out hb1);have HZ1:=ac (fB hb1 HZ0.out);obtain⟨z0,z1,z2,z3,z4,z5,z6⟩:=sg HZ1.out rfl;obtain⟨y0,y1,y2,y3,y4,y5,y6⟩:=zd HZ1.out;have hl1:=fE HZ1.out
     clear hb1 hsi hrs hap))
  obtain⟨wz,hwz⟩:∃wz,wz=(((((((w1.setCell ⟨w.heap.size+1,0,none⟩ iG).setCell ⟨w.heap.size+1,1,none⟩ iG).setCell ⟨w.heap.size+1,2,none⟩ iG).setCell ⟨w.heap.size+1,3,none⟩ iG).setCell ⟨w.heap.size+1,4,none⟩ iG).setCell ⟨w.heap.size+1,5,none⟩ iG).setCell ⟨w.heap.size+1,6,none⟩ iG):=⟨_,rfl⟩
  rw[<-hwz];have hz:wz.heap[w.heap.size+1]? =some (.cells #[iG,iG,iG,iG,iG,iG,iG] 39 (0,0)):=by rw[hwz,aC _ _ _ _ _ _ (aC _ _ _ _ _ _ (aC _ _ _ _ _ _ (aC _ _ _ _ _ _ (aC _ _ _ _ _ _ (aC _ _ _ _ _ _ (aC _ _ _ _ _ _ HZ1.out))))))];rfl
  have hbz:Below w.heap.size w wz:=by rw[hwz];exact(((((((HB1.out.setCell (bY _) _).setCell (bY _) _).setCell (bY _) _).setCell (bY _) _).setCell (bY _) _).setCell (bY _) _).setCell (bY _) _)
  obtain⟨k0,k1,k2,k3,k4,k5,k6⟩:=QR ⟨λ_=>iG,yC⟩ hz;refine aR (v:=.tuple #[.agg #[iG,iG,iG,iG,iG,iG,iG],.int .i64 (uM ps bs (fI ls))]) (by simp[results,Tryz.results11,asAddr,k0,k1,k2,k3,k4,k5,k6,go_sem]) rfl ?_;refine⟨⟨λ_=>iG,yC⟩,by rw[HE.out],λj hj=>?_,RG,hbz⟩;rw[ofM,az (by rw[HE.out];exact HN.out)];exact ZB _ _ hj
 .have HE0:=ac hE;have hne:(uM ps bs (fI ls) != 0)=false:=by simpa using hE
  have HLN:Hid (ls.length=(fI ls).length):=by rw[Hid];simp[fI]
  by_cases hk0:k<0
  .have HE:Hid (ofE ps bs (fI ls) k=5):=by rw[Hid,ofE,az (by rw[hE];simp),aM (.inl hk0)]
   clear hE
   go_wp2_with (first
    |(refine ay (o:=⟨some 11,.load 25 _,_,_,_,_⟩) rfl 25 _ rfl w.heap.size rfl 25 _ (0,0) _ HF0.out aJ rfl gE ?_)
    |(go_at_call 9
      refine(wQ pa pn pc ps ba bn bc bs ta tn tc ls w0 (HPI.out.ext HB0.out) (HB.out.ext HB0.out) (HTL.out.ext HB0.out) HTOT.out (HTB.out.ext HB0.out)).mono ?_;rintro e w1 ⟨v,rs,rfl,hrs,hsi,hap,hb1⟩;obtain⟨av,cv,hav⟩:=iP.form hsi.1;subst hav;have HSI:=ac hsi;have HRS:=ac hrs;have HB1:=ac (fC HB0.out hb1);have HZ1:=ac (fB hb1 HZ0.out);obtain⟨z0,z1,z2,z3,z4,z5,z6⟩:=sg HZ1.out rfl;obtain⟨y0,y1,y2,y3,y4,y5,y6⟩:=zd HZ1.out;have hl1:=fE HZ1.out
      clear hb1 hsi hrs hap))
   obtain⟨wz,hwz⟩:∃wz,wz=(((((((w1.setCell ⟨w.heap.size+1,0,none⟩ iG).setCell ⟨w.heap.size+1,1,none⟩ iG).setCell ⟨w.heap.size+1,2,none⟩ iG).setCell ⟨w.heap.size+1,3,none⟩ iG).setCell ⟨w.heap.size+1,4,none⟩ iG).setCell ⟨w.heap.size+1,5,none⟩ iG).setCell ⟨w.heap.size+1,6,none⟩ iG):=⟨_,rfl⟩
   rw[<-hwz];have hz:wz.heap[w.heap.size+1]? =some (.cells #[iG,iG,iG,iG,iG,iG,iG] 39 (0,0)):=by rw[hwz,aC _ _ _ _ _ _ (aC _ _ _ _ _ _ (aC _ _ _ _ _ _ (aC _ _ _ _ _ _ (aC _ _ _ _ _ _ (aC _ _ _ _ _ _ (aC _ _ _ _ _ _ HZ1.out))))))];rfl
   have hbz:Below w.heap.size w wz:=by rw[hwz];exact(((((((HB1.out.setCell (bY _) _).setCell (bY _) _).setCell (bY _) _).setCell (bY _) _).setCell (bY _) _).setCell (bY _) _).setCell (bY _) _)
   obtain⟨k0,k1,k2,k3,k4,k5,k6⟩:=QR ⟨λ_=>iG,yC⟩ hz;refine aR (v:=.tuple #[.agg #[iG,iG,iG,iG,iG,iG,iG],.int .i64 (5)]) (by simp[results,Tryz.results11,asAddr,k0,k1,k2,k3,k4,k5,k6,go_sem]) rfl ?_;refine⟨⟨λ_=>iG,yC⟩,by rw[HE.out],λj hj=>?_,RG,hbz⟩;rw[ofM,az (by rw[HE.out];omega)];exact ZB _ _ hj
  
  .by_cases hk1:((fI ls).length:Int)<=k
   .have HE:Hid (ofE ps bs (fI ls) k=5):=by rw[Hid,ofE,az (by rw[hE];simp),aM (.inr hk1)]
    clear hE
    go_wp2_with (first
     |(refine ay (o:=⟨some 11,.load 25 _,_,_,_,_⟩) rfl 25 _ rfl w.heap.size rfl 25 _ (0,0) _ HF0.out aJ rfl gE ?_)
     |(go_at_call 9
       refine(wQ pa pn pc ps ba bn bc bs ta tn tc ls w0 (HPI.out.ext HB0.out) (HB.out.ext HB0.out) (HTL.out.ext HB0.out) HTOT.out (HTB.out.ext HB0.out)).mono ?_;rintro e w1 ⟨v,rs,rfl,hrs,hsi,hap,hb1⟩;obtain⟨av,cv,hav⟩:=iP.form hsi.1;subst hav;have HSI:=ac hsi;have HRS:=ac hrs;have HB1:=ac (fC HB0.out hb1);have HZ1:=ac (fB hb1 HZ0.out);obtain⟨z0,z1,z2,z3,z4,z5,z6⟩:=sg HZ1.out rfl;obtain⟨y0,y1,y2,y3,y4,y5,y6⟩:=zd HZ1.out;have hl1:=fE HZ1.out;have hrl:rs.length=(fI ls).length:=(by have:=bh List.length HRS.out;rw[TQ,aM HE0.out,CJ] at this;simpa using this)
       rw[hrl]
       clear hb1 hsi hrs hap))
    obtain⟨wz,hwz⟩:∃wz,wz=(((((((w1.setCell ⟨w.heap.size+1,0,none⟩ iG).setCell ⟨w.heap.size+1,1,none⟩ iG).setCell ⟨w.heap.size+1,2,none⟩ iG).setCell ⟨w.heap.size+1,3,none⟩ iG).setCell ⟨w.heap.size+1,4,none⟩ iG).setCell ⟨w.heap.size+1,5,none⟩ iG).setCell ⟨w.heap.size+1,6,none⟩ iG):=⟨_,rfl⟩
    rw[<-hwz];have hz:wz.heap[w.heap.size+1]? =some (.cells #[iG,iG,iG,iG,iG,iG,iG] 39 (0,0)):=by rw[hwz,aC _ _ _ _ _ _ (aC _ _ _ _ _ _ (aC _ _ _ _ _ _ (aC _ _ _ _ _ _ (aC _ _ _ _ _ _ (aC _ _ _ _ _ _ (aC _ _ _ _ _ _ HZ1.out))))))];rfl
    have hbz:Below w.heap.size w wz:=by rw[hwz];exact(((((((HB1.out.setCell (bY _) _).setCell (bY _) _).setCell (bY _) _).setCell (bY _) _).setCell (bY _) _).setCell (bY _) _).setCell (bY _) _)
    obtain⟨k0,k1,k2,k3,k4,k5,k6⟩:=QR ⟨λ_=>iG,yC⟩ hz;refine aR (v:=.tuple #[.agg #[iG,iG,iG,iG,iG,iG,iG],.int .i64 (5)]) (by simp[results,Tryz.results11,asAddr,k0,k1,k2,k3,k4,k5,k6,go_sem]) rfl ?_;refine⟨⟨λ_=>iG,yC⟩,by rw[HE.out],λj hj=>?_,RG,hbz⟩;rw[ofM,az (by rw[HE.out];omega)];exact ZB _ _ hj
   .have HE:Hid (ofE ps bs (fI ls) k=0):=by rw[Hid,ofE,az (by rw[hE];simp),az (by omega)]
    clear hE;obtain⟨m,rfl⟩:∃m:Nat,k=m:=⟨k.toNat,by omega⟩
    have hm:m<(fI ls).length:=by omega
    clear hk0 hk1
    go_wp2_with (first
     |(refine ay (o:=⟨some 11,.load 25 _,_,_,_,_⟩) rfl 25 _ rfl w.heap.size rfl 25 _ (0,0) _ HF0.out aJ rfl gE ?_)
     |(go_at_call 9
       refine(wQ pa pn pc ps ba bn bc bs ta tn tc ls w0 (HPI.out.ext HB0.out) (HB.out.ext HB0.out) (HTL.out.ext HB0.out) HTOT.out (HTB.out.ext HB0.out)).mono ?_;rintro e w1 ⟨v,rs,rfl,hrs,hsi,hap,hb1⟩;rw[TQ,aM HE0.out,CJ] at hrs;have hrl:rs.length=(fI ls).length:=(by have:=bh List.length hrs;simpa using this)
       have hmr:m<rs.length:=(by rw[hrl];exact hm)
       obtain⟨bg,cv,hav⟩:=rK hsi.1.1 (by omega);subst hav;have HRG:=ac (iP.range yS hsi.1 ⟨λ_=>iG,yC⟩ hmr);obtain⟨sm,hsm⟩:∃sm,sm=rs.getD m ⟨λ_=>iG,yC⟩:=⟨_,rfl⟩
       have hsd:sm.d=setM ps bs (fI ls) m:=(by
        have h1:(rs.map (·.d))[m]? =some (setM ps bs (fI ls) m):=(by rw[hrs];simp[hm])
        rw[dt] at h1;rw[hsm,ak];rw[ah hmr] at h1|-
        simpa using h1)
       rw[<-hsm] at HRG;have HAP1:Hid (Apt (qH sm)):=hap.sub (by rw[hsm,ak,ah hmr];exact bJ hmr)
       have hown:∀j,j<7->gD w1 w0.heap.size (sm.v j) ((setM ps bs (fI ls) m).rows.getD j []):=λj hj=>(by
        rw[<-hsd]
        exact hsi.2 sm (by rw[hsm,ak,ah hmr];exact bJ hmr) j hj)
       have HOWN:=ac hown;obtain⟨a0,c0,e0⟩:=(hown 0 (by omega)).form;obtain⟨a1,c1,e1⟩:=(hown 1 (by omega)).form;obtain⟨a2,c2,e2⟩:=(hown 2 (by omega)).form;obtain⟨a3,c3,e3⟩:=(hown 3 (by omega)).form;obtain⟨a4,c4,e4⟩:=(hown 4 (by omega)).form;obtain⟨a5,c5,e5⟩:=(hown 5 (by omega)).form;obtain⟨a6,c6,e6⟩:=(hown 6 (by omega)).form;generalize hl09:((setM ps bs (fI ls) m).rows.getD 0 []).length=l0 at e0;generalize hl19:((setM ps bs (fI ls) m).rows.getD 1 []).length=l1 at e1;generalize hl29:((setM ps bs (fI ls) m).rows.getD 2 []).length=l2 at e2;generalize hl39:((setM ps bs (fI ls) m).rows.getD 3 []).length=l3 at e3;generalize hl49:((setM ps bs (fI ls) m).rows.getD 4 []).length=l4 at e4;generalize hl59:((setM ps bs (fI ls) m).rows.getD 5 []).length=l5 at e5;generalize hl69:((setM ps bs (fI ls) m).rows.getD 6 []).length=l6 at e6;have HSC:Hid (qH sm= [.slice a0 l0 c0,.slice a1 l1 c1,.slice a2 l2 c2,.slice a3 l3 c3,.slice a4 l4 c4,.slice a5 l5 c5,.slice a6 l6 c6]):=(by simp only[Hid,qH,e0,e1,e2,e3,e4,e5,e6])
       have HE7:Hid (sm.v 0=.slice a0 l0 c0/\sm.v 1=.slice a1 l1 c1/\sm.v 2=.slice a2 l2 c2/\sm.v 3=.slice a3 l3 c3/\sm.v 4=.slice a4 l4 c4/\sm.v 5=.slice a5 l5 c5/\sm.v 6=.slice a6 l6 c6):=⟨e0,e1,e2,e3,e4,e5,e6⟩
       rw[HSC.out] at HRG;rw[hrl];have HB1:=ac (fC HB0.out hb1);have HZ1:=ac (fB hb1 HZ0.out);have HW0:Hid (w.heap.size+2<=w0.heap.size):=(by have:=fE HZ0.out;show _<=_;omega)
       have hmi:(m:Int)<((fI ls).length:Int):=(by omega)
       obtain⟨z0,z1,z2,z3,z4,z5,z6⟩:=sg HZ1.out rfl;obtain⟨y0,y1,y2,y3,y4,y5,y6⟩:=zd HZ1.out;have hl1:=fE HZ1.out;have r0:w1.cell? ⟨bg,m*7,none⟩=some (.slice a0 l0 c0):=HRG.out 0 _ rfl;have r1:w1.cell? ⟨bg,m*7+1,none⟩=some (.slice a1 l1 c1):=HRG.out 1 _ rfl;have r2:w1.cell? ⟨bg,m*7+2,none⟩=some (.slice a2 l2 c2):=HRG.out 2 _ rfl;have r3:w1.cell? ⟨bg,m*7+3,none⟩=some (.slice a3 l3 c3):=HRG.out 3 _ rfl;have r4:w1.cell? ⟨bg,m*7+4,none⟩=some (.slice a4 l4 c4):=HRG.out 4 _ rfl;have r5:w1.cell? ⟨bg,m*7+5,none⟩=some (.slice a5 l5 c5):=HRG.out 5 _ rfl;have r6:w1.cell? ⟨bg,m*7+6,none⟩=some (.slice a6 l6 c6):=HRG.out 6 _ rfl
       clear hb1 hap hsi hrs hsd hown e0 e1 e2 e3 e4 e5 e6 hl09 hl19 hl29 hl39 hl49 hl59 hl69 hrl hsm hmr))
    obtain⟨wz,hwz⟩:∃wz,wz=(((((((w1.setCell ⟨w.heap.size+1,0,none⟩ (.slice a0 l0 c0)).setCell ⟨w.heap.size+1,1,none⟩ (.slice a1 l1 c1)).setCell ⟨w.heap.size+1,2,none⟩ (.slice a2 l2 c2)).setCell ⟨w.heap.size+1,3,none⟩ (.slice a3 l3 c3)).setCell ⟨w.heap.size+1,4,none⟩ (.slice a4 l4 c4)).setCell ⟨w.heap.size+1,5,none⟩ (.slice a5 l5 c5)).setCell ⟨w.heap.size+1,6,none⟩ (.slice a6 l6 c6)):=⟨_,rfl⟩
    rw[<-hwz];have hz:wz.heap[w.heap.size+1]? =some (.cells #[.slice a0 l0 c0,.slice a1 l1 c1,.slice a2 l2 c2,.slice a3 l3 c3,.slice a4 l4 c4,.slice a5 l5 c5,.slice a6 l6 c6] 39 (0,0)):=by rw[hwz,aC _ _ _ _ _ _ (aC _ _ _ _ _ _ (aC _ _ _ _ _ _ (aC _ _ _ _ _ _ (aC _ _ _ _ _ _ (aC _ _ _ _ _ _ (aC _ _ _ _ _ _ HZ1.out))))))];simp only[TJ,ar,aH,aF]
    have hbz:Below w.heap.size w wz:=by rw[hwz];exact(((((((HB1.out.setCell (bY _) _).setCell (bY _) _).setCell (bY _) _).setCell (bY _) _).setCell (bY _) _).setCell (bY _) _).setCell (bY _) _)
    have hcz:Chg (λj=>j=w.heap.size+1) w1 wz:=by rw[hwz];exact((((((((Chg.refl (λj=>j=w.heap.size+1) w1).setCell (p:=⟨w.heap.size+1,0,none⟩) (.inl rfl) (.slice a0 l0 c0)).setCell (p:=⟨w.heap.size+1,1,none⟩) (.inl rfl) (.slice a1 l1 c1)).setCell (p:=⟨w.heap.size+1,2,none⟩) (.inl rfl) (.slice a2 l2 c2)).setCell (p:=⟨w.heap.size+1,3,none⟩) (.inl rfl) (.slice a3 l3 c3)).setCell (p:=⟨w.heap.size+1,4,none⟩) (.inl rfl) (.slice a4 l4 c4)).setCell (p:=⟨w.heap.size+1,5,none⟩) (.inl rfl) (.slice a5 l5 c5)).setCell (p:=⟨w.heap.size+1,6,none⟩) (.inl rfl) (.slice a6 l6 c6))
    obtain⟨k0,k1,k2,k3,k4,k5,k6⟩:=sg hz rfl;refine aR (v:=.tuple #[.agg #[.slice a0 l0 c0,.slice a1 l1 c1,.slice a2 l2 c2,.slice a3 l3 c3,.slice a4 l4 c4,.slice a5 l5 c5,.slice a6 l6 c6],.int .i64 0]) (by simp[results,Tryz.results11,asAddr,k0,k1,k2,k3,k4,k5,k6,go_sem]) rfl ?_;obtain⟨e0,e1,e2,e3,e4,e5,e6⟩:=HE7.out;refine⟨sm,by rw[HE.out,e0,e1,e2,e3,e4,e5,e6],λj hj=>?_,HAP1.out,hbz⟩;rw[ofM,aM HE.out,dr];have h1:=HOWN.out j hj;have hw0:=HW0.out;exact(show gD wz w0.heap.size _ _ from ⟨iL h1.1 hcz (λq e hS=>by have:=(h1.1.lt q e).1;omega),h1.2⟩).mono (by omega)
theorem QS(pa:Option Addr)(pn pc:Nat)(ps:List Int)(ba:Option Addr)(bn bc:Nat)(bs:List iA)(ta:Option Addr)(tn tc:Nat)(ls:List iN)(k:Int)(w:World)(hp:iJ w pa pn ps)(h:lY w ba bn bs)(ht:iY w ta tn ls)(hL:qY (fI ls)<=1000000)(hT:Tab w)(hk:I64 k):
  Calls Tryz.prog 11 #[mB pa pn pc ba bn bc,.slice ta tn tc,.int .i64 k] w (ti ps bs ls k w):=
 (uk pa pn pc ps ba bn bc bs ta tn tc ls k w hp h ht hL hT hk).mono λ_ _ ⟨s,h1,h2,_,h3⟩=>⟨s.v,h1,h2,h3⟩
end
end Go.Proofs.YtbknbcmppdglhaaGreatDoor
