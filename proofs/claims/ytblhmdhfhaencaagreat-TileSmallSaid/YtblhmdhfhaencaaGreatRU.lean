/-
 Tiles that are lent:LentTile,KeptTile,SameTile,mK,KeptTiles,SameTiles.
-/
import Derived.Test.YtblhmdhfhaencaaGreatLentG
import Derived.Test.YtblhmdhfhaencaaGreatTL
import Derived.Test.YtblhmdhfhaencaaGreatBR
import Derived.Test.YtblhmdhfhaencaaGreatTW
import Derived.Test.YtblhmdhfhaencaaGreatAI2
import Derived.Test.YtblhmdhfhaencaaGreatVA
import Derived.Test.YtblhmdhfhaencaaGreatRM
import Derived.Test.YtblhmdhfhaencaaGreatRC
import Derived.Deep.CutBlock
import Derived.Test.YtblhmdhfhaencaaGreatRF
namespace Go.Proofs.YtblhmdhfhaencaaGreat
set_option linter.unusedSimpArgs false
set_option linter.unusedVariables false
set_option linter.unusedSectionVars false
set_option maxRecDepth 100000
set_option maxHeartbeats 40000000
section
open Go.RowKit
theorem xG:(Tryz.prog.info? 76).map (fun i=>(i.zero,i.size,i.bytes))=some (some (.agg #[.int .i64 0,.int .i64 0,.slice none 0 0]),3,40):=by kernel_rfl
theorem KX(r:bK):∀u∈cN r,u.oneCell'=true:=by
 intro u hu
 simp only[cN,List.mem_cons,List.not_mem_nil,or_false] at hu
 rcases hu with rfl|rfl|rfl<;>rfl
def oB(w:World)(base:Nat)(r r':bK):Prop:=r'.d=r.d∧nZ w base (.slice r'.ba r'.bn r'.bc) r.d.blocks
theorem oB.sd{w:World}{base:Nat}{r r':bK}(h:oB w base r r'):AD r' r:=h.1
theorem gR:kR [3] oB where
 chg:=fun h hc hn=>⟨h.1,h.2.chg hc hn⟩
 mono:=fun hb h=>⟨h.1,h.2.mono hb⟩
 grown:=fun he h ho hg=>⟨h.1,h.2.grown (fun e=>he (by simp[e])) ho hg⟩
theorem oB.ok{w:World}{base:Nat}{r r':bK}(h:oB w base r r')(hr:jG w r)(_:kV r):jG w r':=by
 obtain⟨hd,hl⟩:=h
 obtain⟨a,c,e,hi⟩:=hl.ints (by rw[hr.1.1];exact hr.1.2.1) hr.1.mem
 obtain⟨g,cap,e2,hc,_⟩:=hl.cells
 injection e with e1 e2' e3
 injection e2 with f1 f2 f3
 refine⟨?_,by omega,?_⟩
 ·rw[hd,e1,e2'];exact hi
 ·rw[hd];exact hr.2.2
def mU(i:Nat):bK:=⟨⟨0,fI 1 (i:Int),[]⟩,none,0,0⟩
theorem JF(w:World)(k:Nat)(hk:k<12):jG w (mU k):=by
 have hm:I64 (fI 1 (k:Int)):=by unfold I64 fI;omega
 have z:I64 0:=by unfold I64;omega
 exact⟨⟨rfl,Nat.zero_le _,fun j hj=>absurd hj (by simp[mU])⟩,aBV _,z,hm⟩
theorem WI(k:Nat):kV (mU k):=by simp[kV,mU]
theorem GQ(r:bK)(w:World)(h:jG w r)(hn:kV r):
  Calls Tryz.prog 54 #[qC r] w fun e w'=>∃r',e=.returned (qC r')∧oB w' w.heap.size r r'∧Below w.heap.size w w':=by
 have H:=aBO h
 have HN:=aBO hn
 clear h hn
 go_enter Tryz.func54,Tryz.ntmps54
 go_wp2_with (first
  |(go_at_call 52
    refine(qR r.ba r.bn r.bc r.d.blocks _ (H.out.1.ext (aA (aD _ _) (aD _ _))) HN.out).mono ?_;rintro e w1 ⟨v,rfl,hL,hb⟩;obtain⟨g0,cap0,rfl⟩:=hL.form;obtain⟨x1,x2,x3⟩:=UF w (.cells #[.int .i64 r.d.kind,.int .i64 r.d.parent,.slice r.ba r.bn r.bc] 76) (.cells #[.int .i64 0,.int .i64 0,.slice none 0 0] 76) w1 hb;have y6:w1.cell? ⟨w.heap.size,2,none⟩=some (.slice r.ba r.bn r.bc):=by rw[aBP _ _ _ _ _ _ x1];rfl
    have z6:w1.frozen? ⟨w.heap.size,2,none⟩=false:=frozen_of_row _ _ _ _ _ x1;obtain⟨W1,hW2⟩:∃W,w1.setCell ⟨w.heap.size,2,none⟩ (.slice (some ⟨g0,0,none⟩) r.d.blocks.length cap0)=W:=⟨_,rfl⟩
    have c2:Chg (fun k=>k=w.heap.size) w1 W1:=by rw[←hW2];exact gX _ _ _ _
    have HL1_0:=aBO (hL.chg c2 (fun k hk=>by simp;omega));have X1:W1.heap[w.heap.size]? =some (.cells #[.int .i64 r.d.kind,.int .i64 r.d.parent,.slice (some ⟨g0,0,none⟩) r.d.blocks.length cap0] 76 (0,0)):=by rw[←hW2,heap_setCell_same _ _ 2 _ _ _ x1];rfl
    have HK1:=aBO X1;have HZ1:=aBO (c2.row x2 (by omega));have HX1:=aBO (x3.trans (c2.below (B:=w.heap.size) x3.size (fun k hk=>by omega)));have i1_0:W1.cell? ⟨w.heap.size,0,none⟩=some (.int .i64 r.d.kind):=by rw[aBP _ _ _ _ _ _ X1];rfl
    have i1_1:W1.cell? ⟨w.heap.size,1,none⟩=some (.int .i64 r.d.parent):=by rw[aBP _ _ _ _ _ _ X1];rfl
    have i1_2:W1.cell? ⟨w.heap.size,2,none⟩=some (.slice (some ⟨g0,0,none⟩) r.d.blocks.length cap0):=by rw[aBP _ _ _ _ _ _ X1];rfl
    clear hL x1 x2 x3 hb c2 X1)
  |(refine iW rfl 76 _ _ rfl (w.heap.size+1) #[.int .i64 r.d.kind,.int .i64 r.d.parent,.slice (some ⟨g0,0,none⟩) r.d.blocks.length cap0] rfl rfl 76 _ HZ1.out (by kernel_rfl) rfl (by simp[Value.oneCell']) ?_
    intro W9 c3 X3;have HL9_0:=aBO (HL1_0.out.chg c3 (fun k hk=>by simp;omega));have HX9:=aBO (HX1.out.trans (c3.below (B:=w.heap.size) HX1.out.size (fun k hk=>by omega)));have j0:W9.cell? ⟨w.heap.size+1,0,none⟩=some (.int .i64 r.d.kind):=by rw[aBP _ _ _ _ _ _ X3];rfl
    have j1:W9.cell? ⟨w.heap.size+1,1,none⟩=some (.int .i64 r.d.parent):=by rw[aBP _ _ _ _ _ _ X3];rfl
    have j2:W9.cell? ⟨w.heap.size+1,2,none⟩=some (.slice (some ⟨g0,0,none⟩) r.d.blocks.length cap0):=by rw[aBP _ _ _ _ _ _ X3];rfl
    clear c3 X3))
 refine bodyPost_ret (v:=.agg #[.int .i64 r.d.kind,.int .i64 r.d.parent,.slice (some ⟨g0,0,none⟩) r.d.blocks.length cap0]) (by simp[results,Tryz.results54,go_sem,j0,j1,j2]) rfl ⟨⟨r.d,some ⟨g0,0,none⟩,r.d.blocks.length,cap0⟩,rfl,?_,HX9.out⟩
 exact⟨rfl,HL9_0.out.mono (by simp;omega)⟩
theorem GS(r s:bK)(base:Nat)(w:World)(h:oB w base s r)(hs:jG w s)(hn:kV s):
  Calls Tryz.prog 65 #[qC r,qC s] w fun e w'=>e=.returned (.bool true)∧Below w.heap.size w w':=by
 have HR:=aBO (h.ok hs hn)
 have HS:=aBO hs
 have HH:=aBO h
 have HN:=aBO hn
 have HD:=aBO h.sd
 clear hs h hn
 obtain⟨W0,HW0,hR,hS,hW0⟩:=rD w (.cells #[.int .i64 r.d.kind,.int .i64 r.d.parent,.slice r.ba r.bn r.bc] 76) (.cells #[.int .i64 s.d.kind,.int .i64 s.d.parent,.slice s.ba s.bn s.bc] 76)
 have x0:∀w',Below W0.heap.size W0 w'→w'.cell? ⟨w.heap.size,0,none⟩=some (.int .i64 r.d.kind):=fun w' hb=>by rw[aBP _ _ _ _ _ _ (aB hb hR)];rfl
 have x1:∀w',Below W0.heap.size W0 w'→w'.cell? ⟨w.heap.size,1,none⟩=some (.int .i64 r.d.parent):=fun w' hb=>by rw[aBP _ _ _ _ _ _ (aB hb hR)];rfl
 have x2:∀w',Below W0.heap.size W0 w'→w'.cell? ⟨w.heap.size,2,none⟩=some (.slice r.ba r.bn r.bc):=fun w' hb=>by rw[aBP _ _ _ _ _ _ (aB hb hR)];rfl
 have y0:∀w',Below W0.heap.size W0 w'→w'.cell? ⟨w.heap.size+1,0,none⟩=some (.int .i64 s.d.kind):=fun w' hb=>by rw[aBP _ _ _ _ _ _ (aB hb hS)];rfl
 have y1:∀w',Below W0.heap.size W0 w'→w'.cell? ⟨w.heap.size+1,1,none⟩=some (.int .i64 s.d.parent):=fun w' hb=>by rw[aBP _ _ _ _ _ _ (aB hb hS)];rfl
 have y2:∀w',Below W0.heap.size W0 w'→w'.cell? ⟨w.heap.size+1,2,none⟩=some (.slice s.ba s.bn s.bc):=fun w' hb=>by rw[aBP _ _ _ _ _ _ (aB hb hS)];rfl
 have E0:Below W0.heap.size W0 W0:=aBQ _ _
 clear hR hS
 go_enter Tryz.func65,Tryz.ntmps65
 go_wp2_with (first
  |(go_at_call 63
    refine(qS base _ s.ba s.bn s.bc s.d.blocks w1 (gR.ext (gR.ext HH.out HW0.out) E1).2 ((HS.out.ext HW0.out).ext E1).1 HN.out).mono ?_;rintro e w2 ⟨rfl,q2,hq2⟩;have E2:Below W0.heap.size W0 w2:=by rw[hq2];exact bZ E1 q2
    clear hq2)
  |(go_at_call 66
    refine(nO r s W0 HD.out (HR.out.ext HW0.out) (HS.out.ext HW0.out) HN.out).mono ?_
    rintro e w1 ⟨rfl,E1⟩))
 go_ret
 exact⟨rfl,aA HW0.out E2⟩
theorem wF(i:Nat)(w:World)(hi:i≤100000):
  Calls Tryz.prog 55 #[.int .i64 1,.int .i64 (i:Int)] w fun e w'=>e=.returned (qC (mU i))∧Below w.heap.size w w':=by
 go_enter Tryz.func55,Tryz.ntmps55
 go_wp2_with (first
  |(go_at_call 112;refine(iS _ _ _ (by omega) (by omega)).mono ?_;rintro e w' ⟨rfl,rfl⟩)
  |(refine eC rfl 76 _ _ rfl w.heap.size #[.int .i64 0,.int .i64 (fI 1 (i:Int)),.slice none 0 0] rfl rfl 76 _ (aBS w _) (by kernel_rfl) rfl (by simp[Value.oneCell']) w.heap.size w (aD w _) (aBV _) ?_
    intro W3 hb3 X3;have HX:=aBO hb3;have j0:W3.cell? ⟨w.heap.size,0,none⟩=some (.int .i64 0):=by rw[aBP _ _ _ _ _ _ X3];rfl
    have j1:W3.cell? ⟨w.heap.size,1,none⟩=some (.int .i64 (fI 1 (i:Int))):=by rw[aBP _ _ _ _ _ _ X3];rfl
    have j2:W3.cell? ⟨w.heap.size,2,none⟩=some (.slice none 0 0):=by rw[aBP _ _ _ _ _ _ X3];rfl
    clear hb3 X3))
 refine bodyPost_ret (v:=qC (mU i)) (by simp[results,Tryz.results55,go_sem,j0,j1,j2,mU]) rfl ⟨rfl,HX.out⟩
abbrev mK(w:World)(base:Nat)(v:Value)(rs rs':List bK):Prop:=jD cN 3 76 oB mU w base v rs rs'
def DS(w:World)(rs:List bK)(e:Ending)(w':World):Prop:=∃v rs',e=.returned v∧mK w' w.heap.size v rs rs'∧Below w.heap.size w w'
theorem mK.okS{w:World}{base:Nat}{g n cap:Nat}{rs rs':List bK}{a:Option Addr}(h:mK w base (.slice (some ⟨g,0,none⟩) n cap) rs rs')(hs:cM w a n rs)(hn:n≤1000000)(hna:∀r∈rs,kV r):
  cM w (some ⟨g,0,none⟩) (n+12) (rs'++jC mU)∧cM w (some ⟨g,0,none⟩) n rs'∧rs'.length=n∧n+12≤cap∧cap≤maxLen∧dS oB w base rs rs':=by
 obtain⟨h1,h2,h3,h4,h5,h6⟩:=h.recs dM (by omega) hn
 have ho:∀r∈rs',jG w r:=fun r hm=>by
  obtain⟨k,hk,e⟩:=List.mem_iff_getElem.1 hm;have hk2:k<rs.length:=by rw[←h6.1];exact hk
  exact(h6.2 k rs[k] r (aBU hk2) (by rw[aBU hk,e])).ok (hs.2 _ (aBZ hk2)) (hna _ (aBZ hk2))
 refine⟨⟨h1,fun r hm=>?_⟩,⟨h.recsN dM (by omega) hn,ho⟩,h3,h4,h5,h6⟩
 rcases aCA.1 hm with hm|hm
 ·exact ho r hm
 ·exact xC (OK:=fun r=>jG w r) (fun j hj=>JF w j hj) r hm
theorem DE(a:Option Addr)(n c:Nat)(rs:List bK)(w:World)(h:cM w a n rs)(hn:n≤1000000)(hna:∀r∈rs,kV r):
  Calls Tryz.prog 12 #[.slice a n c] w (DS w rs):=by
 obtain⟨i0,hi,hz0,hz1,hz2⟩:=info_parts (P:=Tryz.prog) xG
 have HL:=aBO h.1.1
 have H:=aBO h
 have HNA:=aBO hna
 clear h hna
 go_enter Tryz.func12,Tryz.ntmps12
 go_wp2_with (first
  |(at_make
    refine wpList_make_own _ rfl _ _ 26 rfl w.heap.size 76 i0 _ 3 Tryz.underlying26 hi hz0 hz1 .i64 .i64 _ (n+12) rfl rfl (by omega) (by rw[hz2];omega) (by simp only[maxLen];omega) (aBV _) ?_;intro w1 hown1 hg1;have HO1:=aBO hown1;have HB1:Hid (Below w.heap.size w w1):=(aBQ _ _).grown hg1 (aBV _) (by simp)
    clear hown1 hg1))
 go_loopw [3,4,5] (fun v i _ wr=>∃(k:Nat) (rs':List bK),k≤n∧i=.int .i64 k∧Hid (wr.ownsRow w.heap.size 76 3 v k (rs'.flatMap cN))∧Hid (dS oB wr w.heap.size (rs.take k) rs')∧Hid (Below w.heap.size w wr)) (fun _ i _ _=>n-(intOf i).toNat)
 case atStart=>exact⟨0,[],by omega,rfl,HO1,dS.nil _ _,HB1⟩
 case round=>
  obtain⟨k,rs',hk,rfl,HO,HLR,HB⟩:=hrel;by_cases hlt:k<n
  ·obtain⟨r,b,o,hr,hok,rfl,y0,y1,y2⟩:=(H.out.ext HB.out).cells hlt;have HG:=aBO hr;have HOK:=aBO hok;have HTK:Hid (rs.take (k+1)=rs.take k++ [r]):=by rw[Hid,List.take_add_one,hr];rfl
   have HNr:=aBO (HNA.out r (aBY hr));clear hr hok
   go_wp2_with (first
    |(go_at_call 54
      refine(GQ r wr HOK.out HNr.out).mono ?_;rintro e w1 ⟨r',rfl,hL,hb⟩;have HLr:=aBO hL;have HB1:=aBO hb
      clear hL hb y0 y1 y2)
    |(refine eC rfl 76 _ _ rfl w1.heap.size #[.int .i64 r'.d.kind,.int .i64 r'.d.parent,.slice r'.ba r'.bn r'.bc] rfl rfl 76 _ (aBS w1 _) (by kernel_rfl) rfl (by simp[Value.oneCell']) w1.heap.size w1 (aD w1 _) (aBV _) ?_
      intro W3 hb3 X3;have HB3:=aBO (aA HB1.out hb3);have HLr3:=aBO (gR.ext (gR.mono HB.out.size HLr.out) hb3);have i0:W3.cell? ⟨w1.heap.size,0,none⟩=some (.int .i64 r'.d.kind):=by rw[aBP _ _ _ _ _ _ X3];rfl
      have i1:W3.cell? ⟨w1.heap.size,1,none⟩=some (.int .i64 r'.d.parent):=by rw[aBP _ _ _ _ _ _ X3];rfl
      have i2:W3.cell? ⟨w1.heap.size,2,none⟩=some (.slice r'.ba r'.bn r'.bc):=by rw[aBP _ _ _ _ _ _ X3];rfl
      clear hb3 X3)
    |(at_builtin
      go_loud (
       have HO1:=aBO ((aR.ownsRow wr.heap.size _ _ _ _ _ _).ext HO.out HB3.out);refine bV rfl W3 (.tmp 22) (.tmp 24) 26 76 rfl w.heap.size _ 3 40 Tryz.underlying26 xG rfl (by omega) u3 k _ (cN r') rfl HO1.out W3.heap.size rfl rfl rfl (KX r') (by simp only[maxLen];omega) (by omega) (aA HB.out HB3.out).size ?_;intro g cap w4 hown4 hg4 hat4;have HO4:Hid (w4.ownsRow w.heap.size 76 3 (.slice (some ⟨g,0,none⟩) (k+1) cap) (k+1) ((rs'++ [r']).flatMap cN)):=by rw[Hid,List.flatMap_append];simpa using hown4
       have HB4:Hid (Below w.heap.size w w4):=(aA HB.out HB3.out).grown hg4 (aA HB.out HB3.out).size (fun j e=>(HO1.out.lt j e).1);have HL4:Hid (dS oB w4 w.heap.size (rs.take (k+1)) (rs'++ [r'])):=by
        rw[Hid,HTK.out];exact((HLR.out.ext gR HB3.out).snoc HLr3.out).grown gR (by decide) HO1.out hg4
       clear hown4 hg4 hat4 i0 i1 i2)))
   go_roundw
   case rel=>exact⟨k+1,rs'++ [r'],by omega,by go_num,HO4,HL4,HB4⟩
   case measure=>simp[intOf];omega
  ·obtain rfl:k=n:=by omega
   have HLR1:Hid (dS oB wr w.heap.size rs rs'):=by
    have:=HLR.out;rw[aCB (by rw[HL.out];omega)] at this;exact this
   have HO1:Hid (wr.ownsRow w.heap.size 76 3 u3 (k+0) ((rs'++(jC mU).take 0).flatMap cN)):=by rw[Hid];simpa using HO.out
   clear HLR HO;go_wp2
   go_loopw [3,6] (fun v i wr=>∃(j:Nat),j≤12∧i=.int .i64 j∧Hid (wr.ownsRow w.heap.size 76 3 v (k+j) ((rs'++(jC mU).take j).flatMap cN))∧Hid (dS oB wr w.heap.size rs rs')∧Hid (Below w.heap.size w wr)) (fun _ i _=>12-(intOf i).toNat)
   case atStart=>exact⟨0,by omega,rfl,HO1,HLR1,HB⟩
   case round=>
    clear HO1 HLR1 HB;obtain⟨j,hj,rfl,HO,HLR,HB⟩:=hrel;by_cases hlt:j<12
    ·go_wp2_with (first
      |(go_at_call 55;refine(wF j _ (by omega)).mono ?_;rintro e w1 ⟨rfl,hb1⟩;have HB1:=aBO hb1;clear hb1)
      |(at_builtin
        go_loud (
         have HO1:=aBO ((aR.ownsRow wr.heap.size _ _ _ _ _ _).ext HO.out HB1.out);refine bV rfl w1 (.tmp 30) (.tmp 33) 26 76 rfl w.heap.size _ 3 40 Tryz.underlying26 xG rfl (by omega) u3 (k+j) _ (cN (mU j)) rfl HO1.out w1.heap.size rfl rfl rfl (KX _) (by simp only[maxLen];omega) (by omega) (aA HB.out HB1.out).size ?_;intro g cap w4 hown4 hg4 hat4;have HO4:Hid (w4.ownsRow w.heap.size 76 3 (.slice (some ⟨g,0,none⟩) (k+j+1) cap) (k+j+1) ((rs'++(jC mU).take (j+1)).flatMap cN)):=by rw[Hid,uK mU j hlt,←List.append_assoc,List.flatMap_append];simpa using hown4
         have HB4:Hid (Below w.heap.size w w4):=(aA HB.out HB1.out).grown hg4 (aA HB.out HB1.out).size (fun j e=>(HO1.out.lt j e).1);have HL4:Hid (dS oB w4 w.heap.size rs rs'):=(HLR.out.ext gR HB1.out).grown gR (by decide) HO1.out hg4
         clear hown4 hg4 hat4)))
     go_roundw
     case rel=>exact⟨j+1,by omega,by go_num,HO4,HL4,HB4⟩
     case measure=>simp[intOf];omega
    ·obtain rfl:j=12:=by omega
     have hown:=HO.out;have hform:∃g cap,u3=.slice (some ⟨g,0,none⟩) (k+12) cap∧k+12≤cap∧cap≤maxLen:=by
      rcases hown.2 with ⟨_,h0⟩|⟨g',cap',cur,hv,_,_,h1,h2,_⟩
      ·omega
      ·exact⟨_,_,hv,h1,h2⟩
     obtain⟨g,cap,rfl,hc1,hc2⟩:=hform;clear hown;unfold maxLen at hc2;go_wp2
     go_ret
     refine⟨_,rs',rfl,⟨g,cap,by rw[HL.out];rfl,?_,HLR.out⟩,HB.out⟩;have:=HO.out;rw[HL.out];rw[aCB (by rw[pW];omega)] at this;exact this
theorem DH(base g cap:Nat)(a:Option Addr)(n c:Nat)(rs rs':List bK)(w:World)(h:mK w base (.slice (some ⟨g,0,none⟩) n cap) rs rs')(hs:cM w a n rs)(hn:n≤1000000)(hna:∀r∈rs,kV r):
  Calls Tryz.prog 22 #[.slice (some ⟨g,0,none⟩) n cap,.slice a n c] w fun e w'=>e=.returned (.bool true)∧Below w.heap.size w w':=by
 obtain⟨h1,_,hlen,hc1,hc2,hl⟩:=h.okS hs hn hna
 have HA:=aBO h1
 have HS:=aBO hs
 have HL:=aBO hl
 have HLen:=aBO hlen
 have HNA:=aBO hna
 clear h hs h1 hl hlen hna
 unfold maxLen at hc2
 have hne:((n:Int) != (n:Int))=false:=by simp
 go_enter Tryz.func22,Tryz.ntmps22
 go_wp2
 go_loopw [6] (fun i wr=>∃(k:Nat),k≤n+12∧i=.int .i64 k∧Hid (Below w.heap.size w wr)) (fun i _=>n+12-(intOf i).toNat)
 case atStart=>exact⟨0,by omega,rfl,aBQ _ _⟩
 case round=>
  obtain⟨k,hk,rfl,HB⟩:=hrel;by_cases hlt:k<n+12
  ·obtain⟨r,b1,o1,hr,hokr,hab,y0,y1,y2⟩:=(HA.out.ext HB.out).cells hlt;injection hab with hab;injection hab with hab1 hab2 _;subst hab1;subst hab2;have HOr:=aBO hokr;rw[Nat.zero_add] at y0 y1 y2;have kx0:∀n:aY wr,n.val.cell? ⟨g,k*3,none⟩=some (.int .i64 r.d.kind):=fun n=>aH n.ext y0;have kx1:∀n:aY wr,n.val.cell? ⟨g,k*3+1,none⟩=some (.int .i64 r.d.parent):=fun n=>aH n.ext y1;have kx2:∀n:aY wr,n.val.cell? ⟨g,k*3+2,none⟩=some (.slice r.ba r.bn r.bc):=fun n=>aH n.ext y2;have HNE:Nonempty (aY wr):=⟨⟨wr,aBQ _ _⟩⟩
   by_cases hkn:k<n
   ·rw[aCC (by rw[HLen.out];exact hkn)] at hr;obtain⟨s,b2,o2,hs,hoks,rfl,z0,z1,z2⟩:=(HS.out.ext HB.out).cells hkn;have HLk:=aBO (gR.ext (HL.out.2 k s r hs hr) HB.out);have HOs:=aBO hoks;have HNs:=aBO (HNA.out s (aBY hs));have ky0:∀n:aY wr,n.val.cell? ⟨b2,o2+k*3,none⟩=some (.int .i64 s.d.kind):=fun n=>aH n.ext z0;have ky1:∀n:aY wr,n.val.cell? ⟨b2,o2+k*3+1,none⟩=some (.int .i64 s.d.parent):=fun n=>aH n.ext z1;have ky2:∀n:aY wr,n.val.cell? ⟨b2,o2+k*3+2,none⟩=some (.slice s.ba s.bn s.bc):=fun n=>aH n.ext z2;have hk0:(0:Int)≤(k:Int):=by omega
    have hk1:(k:Int)<(n:Int):=by omega
    have hk2:(k:Int)<(n:Int)+12:=by omega
    have d1:decide ((k:Int)<(n:Int))=true:=by simpa using hkn
    have d2:decide ((n:Int)≤(k:Int))=false:=by simp;omega
    have d3:decide (k<n)=true:=by simpa using hkn
    have d4:decide (n≤k)=false:=by simp;omega
    clear hr hs hoks hokr y0 y1 y2 z0 z1 z2 hkn;go_wp2;refine bB (by kernel_rfl) (by kernel_rfl) ?_
    repeat (go_big_quiet_step (first
     |(go_at_call 65;exact cG (GS r s base _ (gR.ext HLk.out (aY.ext _)) (jG.ext HOs.out (aY.ext _)) HNs.out))))
    refine wpQuiet_nil ?_;rintro _ ⟨mm,rfl⟩;have HM:=aBO (aA HB.out mm.ext);generalize mm.val=W8 at *;clear kx0 kx1 kx2 ky0 ky1 ky2;go_wp2
    go_roundw
    case rel=>exact⟨k+1,by omega,by go_num,HM⟩
    case measure=>simp[intOf];omega
   ·obtain⟨j,rfl⟩:∃j,k=n+j:=⟨k-n,by omega⟩
    have hj:j<12:=by omega
    have hrm:r=mU j:=by
     rw[List.getElem?_append_right (by rw[HLen.out];omega),HLen.out,Nat.add_sub_cancel_left,vN mU j hj] at hr;exact(Option.some.inj hr).symm
    have HRM:=aBO hrm;have d1:decide (n+j<n)=false:=by simp
    have d2:decide (n≤n+j)=true:=by simp
    have d3:decide ((n:Int)+(j:Int)<(n:Int))=false:=by simp;omega
    have d4:decide ((n:Int)≤(n:Int)+(j:Int))=true:=by simp;omega
    have d5:IntKind.i64.wrap ((n:Int)+(j:Int)-(n:Int))=(j:Int):=by rw[IntKind.wrap_i64];omega
    have hk0:(0:Int)≤(n:Int)+(j:Int):=by omega
    have hk2:(n:Int)+(j:Int)<(n:Int)+12:=by omega
    clear hr hrm hokr y0 y1 y2 hkn;go_wp2;refine bB (by kernel_rfl) (by kernel_rfl) ?_
    repeat (go_big_quiet_step (first
     |(go_at_call 55;exact cG (wF j _ (by omega)))
     |(go_at_call 66;exact cG (nO r (mU j) _ (by rw[HRM.out];exact MY _) (jG.ext HOr.out (aY.ext _)) (JF _ j hj) (WI j)))))
    refine wpQuiet_nil ?_;rintro _ ⟨mm,rfl⟩;have HM:=aBO (aA HB.out mm.ext);generalize mm.val=W8 at *;clear kx0 kx1 kx2;go_wp2
    go_roundw
    case rel=>exact⟨n+j+1,by omega,by go_num,HM⟩
    case measure=>simp[intOf];omega
  ·go_wp2
   go_ret
   exact⟨rfl,HB.out⟩
end

section
open Go.RowKit Go.Shelf
theorem YN{w:World}{base:Nat}{rs rs':List bK}(h:dS oB w base rs rs'):aJ rs'=aJ rs:=by
 apply List.ext_getElem?
 intro k
 simp only[aJ,List.getElem?_map]
 by_cases hk:k<rs.length
 ·have hk2:k<rs'.length:=by rw[h.1];exact hk
  have:=(h.2 k rs[k] rs'[k] (aBU hk) (aBU hk2)).1;rw[aBU hk,aBU hk2];simp[this]
 ·rw[List.getElem?_eq_none (l:=rs') (by rw[h.1];omega),List.getElem?_eq_none (l:=rs) (by omega)]
theorem sX(ls:List bK):∀r∈ls,r.d.blocks.length≤gZ (aJ ls):=by
 induction ls with
 |nil=>intro r hr;cases hr
 |cons x l ih=>
  intro r hr;simp only[aJ,List.map_cons,gZ,List.sum_cons];rcases List.mem_cons.1 hr with rfl|hr
  ·omega
  ·have:=ih r hr;simp only[aJ,gZ] at this;omega
end
end Go.Proofs.YtblhmdhfhaencaaGreat
