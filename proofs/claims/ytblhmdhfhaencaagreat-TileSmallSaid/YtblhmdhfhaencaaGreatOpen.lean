/-
 TileSmall,its own walk. (Printed by gen_tilesmall.py.)
-/
import Derived.Test.YtblhmdhfhaencaaGreatFlatRec
import Derived.Test.YtblhmdhfhaencaaGreatVG
import Derived.Test.YtblhmdhfhaencaaGreatTW
import Derived.Test.YtblhmdhfhaencaaGreatCR
import Derived.Test.YtblhmdhfhaencaaGreatBR
import Derived.Test.YtblhmdhfhaencaaGreatRows
import Derived.WalkKit
import Derived.ProofKit
import Derived.OpenShut
import Derived.ShutString
import Derived.ChangeOld
import Derived.Below
import Derived.SizedLaws
import Derived.Lib.SmallJoins
namespace Go.Proofs.YtblhmdhfhaencaaGreat
set_option linter.unusedSimpArgs false
set_option linter.unusedVariables false
set_option linter.unusedSectionVars false
set_option maxRecDepth 100000
set_option maxHeartbeats 40000000
section
open Go.RowKit Go.Shelf
attribute [local go_sem] Oper.semAt_some cT bM cC bG
def csF(f:jE):List Value:= [.slice f.pa f.pn f.pc,.slice f.ba f.bn f.bc]
theorem ZB(f:jE):(csF f).length=2:=rfl
theorem jN{w W:World}{a:Option Addr}{n c:Nat}{L:List (List Int)}{rs:List SlR}(hL:rs.map (·.xs)=L)(h:iR W a n rs)(hl:∀l∈L,∀x∈l,I64 x)(h2:∀l∈L,l.length≤2)(hb:Below w.heap.size w W)(hn:n≤1000:=by omega):
  Calls Tryz.prog 49 #[.slice a n c] W fun e w'=>∃f:jE,e=.returned (eO f)∧f.pn=1∧jH w' f∧Below w.heap.size w w':=by
 subst hL
 refine(vI a n c rs W h hn (fun r hr=>h2 _ (List.mem_map.2 ⟨r,hr,rfl⟩))).mono ?_
 rintro e w' ⟨pa,pc,ba,bc,rfl,ho,hp,hb'⟩
 exact⟨fOf pa pc ba bc (rs.map (·.xs)),rfl,rfl,QZ hl ho hp,aA hb hb'⟩
theorem WE{w W:World}{a:Option Addr}{c:Nat}{rs:List SlR}(hL:rs.map (·.xs)= [[1],[]])(h:iR W a 2 rs)(hb:Below w.heap.size w W):
  Calls Tryz.prog 49 #[.slice a 2 c] W fun e w'=>∃pa pc gb bc,e=.returned (dX pa 1 pc (some ⟨gb,0,none⟩) 2 bc)∧cK 73 5 iZ w' w.heap.size (.slice (some ⟨gb,0,none⟩) 2 bc) [dO [1],dO []]∧bN w' w.heap.size (.slice pa 1 pc) [1]∧Below w.heap.size w w':=by
 refine(vI a 2 c rs W h (by omega) (fun r hr=>?_)).mono ?_
 ·have h9:r.xs∈rs.map (·.xs):=List.mem_map.2 ⟨r,hr,rfl⟩;rw[hL] at h9;simp only[List.mem_cons,List.not_mem_nil,or_false] at h9;rcases h9 with e|e<;>rw[e]<;>simp
 ·intro e w' hp;rw[hL] at hp;obtain⟨pa,pc,ba,bc,rfl,ho,hp,hb'⟩:=hp;obtain⟨gb,cb,hba⟩:=eI ho.1 (by simp);injection hba with hba _ _;subst hba;exact⟨pa,pc,gb,bc,rfl,cK.mono ho hb.size,hp.mono hb.size,aA hb hb'⟩
theorem tV(f:jE)(w:World)(h:jH w f):Calls Tryz.prog 31 #[eO f] w fun e w'=>∃a n c ls en,e=.returned (.tuple #[.slice a n c,.int .i64 en])∧cM w' a n ls∧n≤900∧(∀t∈ls,1≤t.bn∧t.bn≤100000)∧Below w.heap.size w w':=by
 refine(yR f.pa f.pn f.pc f.ba f.bn f.bc (hOf f.bs) w h.2.x.1).mono ?_
 rintro e w' ⟨h0,h1,hb⟩
 cases hf:bU (aG (hOf f.bs)) with
 |false=>exact⟨none,0,0,[],2,h0 hf,DY _,by omega,by simp,hb⟩
 |true=>
  obtain⟨v,ls,he,ht,hd⟩:=h1 hf;obtain⟨a,c,rfl⟩:=ht.own.form;have h3:=(bQ hf).2.1.2;have hp:=iI h3 (lN hf);have hpm:=rJ (n:=(aG (hOf f.bs)).length) (L:=dR (aG (hOf f.bs))) (fun p hp'=>(hp p hp').2.2.2.1);have hR:=MR hf hpm.symm (wE (lN hf) h3 rfl hpm);rw[←hd] at hR;have h2:=pV hf;have h4:=hpm.length_eq;have hlen:=congrArg List.length hd;rw[cQ,eT] at hlen;refine⟨a,ls.length,c,ls,0,he,ht.ok,by omega,fun t hm=>?_,hb⟩;obtain⟨k,hk,rfl⟩:=List.mem_iff_getElem.1 hm;have hb1:=MU hR (k:=k) (by rw[cQ];exact hk);have hat:=iM ls k ls[k] (aBU hk);have hbl:(eW (aJ ls) k)=ls[k].d.blocks:=by rw[←hat]
  have hin:=(ht.ok.2 ls[k] hm).1.1;rw[hbl,hin] at hb1;refine⟨hb1,?_⟩;have hmem:ls[k].d∈dQ (aG (hOf f.bs)).length (tA (aG (hOf f.bs)).length (dR (aG (hOf f.bs)))):=by rw[←hd];exact List.mem_map.2 ⟨_,hm,rfl⟩
  have hle:ls[k].d.blocks.length≤(aG (hOf f.bs)).length:=by
   unfold dQ at hmem;rcases List.mem_cons.1 hmem with e|e
   ·rw[e];exact sR _ _ _
   ·obtain⟨j,_,e⟩:=List.mem_map.1 e;rw[←e];exact sR _ _ _
  omega
theorem sM{X:Nat}{W:World}{A:Nat}{k:Nat}{r:SlR}(h:iR W (some ⟨A,0,none⟩) 8 [⟨[],none,0⟩,⟨[1],some ⟨X,0,none⟩,1⟩,⟨[2],some ⟨X+1,0,none⟩,1⟩,⟨[3],some ⟨X+1+1,0,none⟩,1⟩,⟨[1,2],some ⟨X+1+1+1,0,none⟩,2⟩,⟨[2,3],some ⟨X+1+1+1+1,0,none⟩,2⟩,⟨[3,1],some ⟨X+1+1+1+1+1,0,none⟩,2⟩,⟨[1,1],some ⟨X+1+1+1+1+1+1,0,none⟩,2⟩])(hk:k<8)(hc:W.cell? ⟨A,k,none⟩=some (.slice r.sa r.xs.length r.sc)):r.xs.length≤2:=by
 obtain⟨s,b,o,hs,e,hc2,_⟩:=h.cells hk
 injection e with e
 injection e with e1 e2
 subst e1 e2
 rw[Nat.zero_add,hc] at hc2
 injection hc2 with hc2
 injection hc2 with _ h2 _
 rw[h2]
 have hm:=aBY hs
 simp only[List.mem_cons,List.not_mem_nil,or_false] at hm
 rcases hm with rfl|rfl|rfl|rfl|rfl|rfl|rfl|rfl<;>simp
abbrev aAO(pa:Option Addr)(pc:Nat)(ba:Option Addr)(bc:Nat):jE:=⟨pa,1,pc,[1],ba,2,bc,[⟨dO [1],[]⟩,⟨⟨none,0,0,⟨9,0,0,0⟩⟩,[]⟩]⟩
theorem XR{w:World}{base gb bc:Nat}(h:cK 73 5 iZ w base (.slice (some ⟨gb,0,none⟩) 2 bc) [dO [1],dO []]):w.cell? ⟨gb,6,none⟩=some (.int .i64 3)∧w.frozen? ⟨gb,6,none⟩=false∧gb<w.heap.size:=by
 have hr:=h.recs (show∀b,(iZ b).length=5 from fun _=>rfl)
 obtain⟨b,o,e,hc⟩:=hr.2.2 1 (dO []) rfl
 injection e with e
 injection e with e1 e2
 subst e1 e2
 have h1:=hc 1 (by omega)
 refine⟨h1,?_⟩
 rcases h.1.2 with ⟨e,_⟩|⟨g',cap,cur,e,_,hh,_⟩
 ·cases e
 ·injection e with e;injection e with e;injection e with e;subst e;exact⟨frozen_of_row _ _ _ _ _ hh,aN hh⟩
theorem WZ{w:World}{base gb bc pc:Nat}{pa:Option Addr}(h:cK 73 5 iZ w base (.slice (some ⟨gb,0,none⟩) 2 bc) [dO [1],dO []])(hp:bN w base (.slice pa 1 pc) [1]):
  jH (w.setCell ⟨gb,6,none⟩ (.int .i64 9)) (aAO pa pc (some ⟨gb,0,none⟩) bc):=by
 have hs:=(h.1.stored 6 (.int .i64 9)).1
 have ho:cK 73 5 iZ (w.setCell ⟨gb,6,none⟩ (.int .i64 9)) base (.slice (some ⟨gb,0,none⟩) 2 bc) [dO [1],⟨none,0,0,⟨9,0,0,0⟩⟩]:=⟨hs,by simp⟩
 have hr:=ho.recs (show∀b,(iZ b).length=5 from fun _=>rfl)
 have hpne:(Value.slice pa 1 pc).ownBlock=none∨(Value.slice pa 1 pc).ownBlock≠some gb:=.inr (by
  rcases h.1.2 with ⟨e,_⟩|⟨g',cap,cur,e,_,hh,_⟩
  ·cases e
  ·injection e with e;injection e with e;injection e with e;subst e
   exact cH hp.1 hh (by decide))
 refine⟨(hp.kept (bA w gb 6 _) hpne).ints,⟨⟨rfl,by show 2≤_;omega,fun k r hk=>?_⟩,fun b hb=>?_⟩⟩
 ·rcases k with _|_|k
  ·simp at hk;subst hk;exact hr.2.2 0 (dO [1]) rfl
  ·simp at hk;subst hk;exact hr.2.2 1 ⟨none,0,0,⟨9,0,0,0⟩⟩ rfl
  ·simp at hk
 ·simp only[List.mem_cons,List.not_mem_nil,or_false] at hb;rcases hb with rfl|rfl
  ·exact⟨by simp only[dO,ID];unfold qE I64;simp,kM.nil _ _ _,fun r hr=>by cases hr⟩
  ·exact⟨by unfold qE I64;simp,kM.nil _ _ _,fun r hr=>by cases hr⟩
theorem VI(w W:World)(h:W=(w.alloc (.cells #[.int .i64 0] 3)).alloc (.cells #[.int .i64 1,.int .i64 (-1),.slice (some ⟨w.heap.size,0,none⟩) 1 1] 76)):
  cM W (some ⟨w.heap.size+1,0,none⟩) 1 [⟨⟨1,-1,[0]⟩,some ⟨w.heap.size,0,none⟩,1,1⟩]∧Below w.heap.size w W:=by
 have h0:W.heap[w.heap.size]? =some (.cells #[.int .i64 0] 3 (0,0)):=by
  rw[h,aBR _ _ _ (by simp)];exact aU _ _ _ (by simp)
 have h1:W.heap[w.heap.size+1]? =some (.cells #[.int .i64 1,.int .i64 (-1),.slice (some ⟨w.heap.size,0,none⟩) 1 1] 76 (0,0)):=by rw[h];exact aU _ _ _ (by simp)
 refine⟨⟨⟨rfl,by omega,fun k x hx=>?_⟩,fun t ht=>?_⟩,?_⟩
 ·rcases k with _|k
  ·simp at hx;subst hx;refine⟨_,0,rfl,fun j hj=>?_⟩;have hj3:j=0∨j=1∨j=2:=by omega
   rw[aBP _ _ _ _ _ _ h1];rcases hj3 with rfl|rfl|rfl<;>rfl
  ·simp at hx
 ·simp only[List.mem_cons,List.not_mem_nil,or_false] at ht;subst ht;exact⟨cL (xs:= [0]) h0 rfl (dJ [0]) (by simp),aBV _,by unfold I64;simp,by unfold I64;simp⟩
 ·rw[h];refine Below.alloc ?_ (by simp) _;refine Below.alloc ?_ (by simp) _;exact aBQ _ _
def aAS(n q0 d1 q1 d2 q2 q3 m7 m3:Nat):Prop:=
 (n:Int)%8=(q0:Int)∧(n:Int)/8=(d1:Int)∧(d1:Int)%8=(q1:Int)∧(n:Int)/64=(d2:Int)∧(d2:Int)%8=(q2:Int)∧(n:Int)/512=(q3:Int)∧(n:Int)%7=(m7:Int)∧(n:Int)%3=(m3:Int)∧
   (q0<8∧q1<8∧q2<8∧q3<8)∧(m7<7∧m3<3)∧(d1≤4096∧d2≤4096)
theorem QO:(∀l∈([[1],[2,5],[3],[2,4],[1],[]]:List (List Int)),∀x∈l,I64 x)∧∀l∈([[1],[2,5],[3],[2,4],[1],[]]:List (List Int)),l.length≤2:=by
 refine⟨fun l hm=>?_,by decide⟩
 simp only[List.mem_cons,List.not_mem_nil,or_false] at hm
 rcases hm with rfl|rfl|rfl|rfl|rfl|rfl
 ·exact dJ [1]
 ·exact dJ [2,5]
 ·exact dJ [3]
 ·exact dJ [2,4]
 ·exact dJ [1]
 ·exact dJ []
theorem aBD(w W:World)(h:W=(((w.alloc (.cells #[.int .i64 1,.int .i64 2] 3)).alloc (.cells #[.int .i64 2] 3)).alloc (.cells #[.int .i64 1,.int .i64 3] 3)).alloc (.cells #[.slice (some ⟨w.heap.size,0,none⟩) 2 2,.slice (some ⟨w.heap.size+1,0,none⟩) 1 1,.slice (some ⟨w.heap.size+1+1,0,none⟩) 2 2,.slice none 0 0] 22)):
  iR W (some ⟨w.heap.size+1+1+1,0,none⟩) 4 [⟨[1,2],some ⟨w.heap.size,0,none⟩,2⟩,⟨[2],some ⟨w.heap.size+1,0,none⟩,1⟩,⟨[1,3],some ⟨w.heap.size+1+1,0,none⟩,2⟩,⟨[],none,0⟩]∧Below w.heap.size w W:=by
 have h0:W.heap[w.heap.size]? =some (.cells #[.int .i64 1,.int .i64 2] 3 (0,0)):=by
  rw[h];rw[aBR _ _ _ (by simp<;>omega),aBR _ _ _ (by simp<;>omega),aBR _ _ _ (by simp<;>omega)];exact aU _ _ _ (by simp)
 have h1:W.heap[w.heap.size+1]? =some (.cells #[.int .i64 2] 3 (0,0)):=by
  rw[h];rw[aBR _ _ _ (by simp<;>omega),aBR _ _ _ (by simp<;>omega)];exact aU _ _ _ (by simp)
 have h2:W.heap[w.heap.size+1+1]? =some (.cells #[.int .i64 1,.int .i64 3] 3 (0,0)):=by
  rw[h];rw[aBR _ _ _ (by simp<;>omega)];exact aU _ _ _ (by simp)
 have hr:W.heap[w.heap.size+1+1+1]? =some (.cells #[.slice (some ⟨w.heap.size,0,none⟩) 2 2,.slice (some ⟨w.heap.size+1,0,none⟩) 1 1,.slice (some ⟨w.heap.size+1+1,0,none⟩) 2 2,.slice none 0 0] 22 (0,0)):=by rw[h];exact aU _ _ _ (by simp)
 refine⟨gD hr rfl ?_,?_⟩
 ·intro r hm;simp only[List.mem_cons,List.not_mem_nil,or_false] at hm;rcases hm with rfl|rfl|rfl|rfl
  ·exact cL (xs:= [1,2]) h0 rfl (dJ [1,2]) (by simp)
  ·exact cL (xs:= [2]) h1 rfl (dJ [2]) (by simp)
  ·exact cL (xs:= [1,3]) h2 rfl (dJ [1,3]) (by simp)
  ·exact(bN.nil W 0).ints
 ·rw[h];refine Below.alloc ?_ (by simp<;>omega) _;refine Below.alloc ?_ (by simp<;>omega) _;refine Below.alloc ?_ (by simp<;>omega) _;refine Below.alloc ?_ (by simp<;>omega) _;exact aBQ _ _
theorem JS:(∀l∈([[1,2],[2],[1,3],[]]:List (List Int)),∀x∈l,I64 x)∧∀l∈([[1,2],[2],[1,3],[]]:List (List Int)),l.length≤2:=by
 refine⟨fun l hm=>?_,by decide⟩
 simp only[List.mem_cons,List.not_mem_nil,or_false] at hm
 rcases hm with rfl|rfl|rfl|rfl
 ·exact dJ [1,2]
 ·exact dJ [2]
 ·exact dJ [1,3]
 ·exact dJ []
theorem aBC(w W:World)(h:W=(((((w.alloc (.cells #[.int .i64 1] 3)).alloc (.cells #[.int .i64 2,.int .i64 3] 3)).alloc (.cells #[.int .i64 3,.int .i64 4] 3)).alloc (.cells #[.int .i64 2] 3)).alloc (.cells #[.int .i64 1,.int .i64 5] 3)).alloc (.cells #[.slice (some ⟨w.heap.size,0,none⟩) 1 1,.slice (some ⟨w.heap.size+1,0,none⟩) 2 2,.slice (some ⟨w.heap.size+1+1,0,none⟩) 2 2,.slice (some ⟨w.heap.size+1+1+1,0,none⟩) 1 1,.slice (some ⟨w.heap.size+1+1+1+1,0,none⟩) 2 2,.slice none 0 0] 22)):
  iR W (some ⟨w.heap.size+1+1+1+1+1,0,none⟩) 6 [⟨[1],some ⟨w.heap.size,0,none⟩,1⟩,⟨[2,3],some ⟨w.heap.size+1,0,none⟩,2⟩,⟨[3,4],some ⟨w.heap.size+1+1,0,none⟩,2⟩,⟨[2],some ⟨w.heap.size+1+1+1,0,none⟩,1⟩,⟨[1,5],some ⟨w.heap.size+1+1+1+1,0,none⟩,2⟩,⟨[],none,0⟩]∧Below w.heap.size w W:=by
 have h0:W.heap[w.heap.size]? =some (.cells #[.int .i64 1] 3 (0,0)):=by
  rw[h];rw[aBR _ _ _ (by simp<;>omega),aBR _ _ _ (by simp<;>omega),aBR _ _ _ (by simp<;>omega),aBR _ _ _ (by simp<;>omega),aBR _ _ _ (by simp<;>omega)];exact aU _ _ _ (by simp)
 have h1:W.heap[w.heap.size+1]? =some (.cells #[.int .i64 2,.int .i64 3] 3 (0,0)):=by
  rw[h];rw[aBR _ _ _ (by simp<;>omega),aBR _ _ _ (by simp<;>omega),aBR _ _ _ (by simp<;>omega),aBR _ _ _ (by simp<;>omega)];exact aU _ _ _ (by simp)
 have h2:W.heap[w.heap.size+1+1]? =some (.cells #[.int .i64 3,.int .i64 4] 3 (0,0)):=by
  rw[h];rw[aBR _ _ _ (by simp<;>omega),aBR _ _ _ (by simp<;>omega),aBR _ _ _ (by simp<;>omega)];exact aU _ _ _ (by simp)
 have h3:W.heap[w.heap.size+1+1+1]? =some (.cells #[.int .i64 2] 3 (0,0)):=by
  rw[h];rw[aBR _ _ _ (by simp<;>omega),aBR _ _ _ (by simp<;>omega)];exact aU _ _ _ (by simp)
 have h4:W.heap[w.heap.size+1+1+1+1]? =some (.cells #[.int .i64 1,.int .i64 5] 3 (0,0)):=by
  rw[h];rw[aBR _ _ _ (by simp<;>omega)];exact aU _ _ _ (by simp)
 have hr:W.heap[w.heap.size+1+1+1+1+1]? =some (.cells #[.slice (some ⟨w.heap.size,0,none⟩) 1 1,.slice (some ⟨w.heap.size+1,0,none⟩) 2 2,.slice (some ⟨w.heap.size+1+1,0,none⟩) 2 2,.slice (some ⟨w.heap.size+1+1+1,0,none⟩) 1 1,.slice (some ⟨w.heap.size+1+1+1+1,0,none⟩) 2 2,.slice none 0 0] 22 (0,0)):=by rw[h];exact aU _ _ _ (by simp)
 refine⟨gD hr rfl ?_,?_⟩
 ·intro r hm;simp only[List.mem_cons,List.not_mem_nil,or_false] at hm;rcases hm with rfl|rfl|rfl|rfl|rfl|rfl
  ·exact cL (xs:= [1]) h0 rfl (dJ [1]) (by simp)
  ·exact cL (xs:= [2,3]) h1 rfl (dJ [2,3]) (by simp)
  ·exact cL (xs:= [3,4]) h2 rfl (dJ [3,4]) (by simp)
  ·exact cL (xs:= [2]) h3 rfl (dJ [2]) (by simp)
  ·exact cL (xs:= [1,5]) h4 rfl (dJ [1,5]) (by simp)
  ·exact(bN.nil W 0).ints
 ·rw[h];refine Below.alloc ?_ (by simp<;>omega) _;refine Below.alloc ?_ (by simp<;>omega) _;refine Below.alloc ?_ (by simp<;>omega) _;refine Below.alloc ?_ (by simp<;>omega) _;refine Below.alloc ?_ (by simp<;>omega) _;refine Below.alloc ?_ (by simp<;>omega) _;exact aBQ _ _
theorem JR:(∀l∈([[1],[2,3],[3,4],[2],[1,5],[]]:List (List Int)),∀x∈l,I64 x)∧∀l∈([[1],[2,3],[3,4],[2],[1,5],[]]:List (List Int)),l.length≤2:=by
 refine⟨fun l hm=>?_,by decide⟩
 simp only[List.mem_cons,List.not_mem_nil,or_false] at hm
 rcases hm with rfl|rfl|rfl|rfl|rfl|rfl
 ·exact dJ [1]
 ·exact dJ [2,3]
 ·exact dJ [3,4]
 ·exact dJ [2]
 ·exact dJ [1,5]
 ·exact dJ []
theorem aBB(w W:World)(h:W=((((((w.alloc (.cells #[.int .i64 1,.int .i64 2] 3)).alloc (.cells #[.int .i64 3,.int .i64 4] 3)).alloc (.cells #[.int .i64 6] 3)).alloc (.cells #[.int .i64 5] 3)).alloc (.cells #[.int .i64 5] 3)).alloc (.cells #[.int .i64 6] 3)).alloc (.cells #[.slice (some ⟨w.heap.size,0,none⟩) 2 2,.slice (some ⟨w.heap.size+1,0,none⟩) 2 2,.slice (some ⟨w.heap.size+1+1,0,none⟩) 1 1,.slice (some ⟨w.heap.size+1+1+1,0,none⟩) 1 1,.slice (some ⟨w.heap.size+1+1+1+1,0,none⟩) 1 1,.slice (some ⟨w.heap.size+1+1+1+1+1,0,none⟩) 1 1,.slice none 0 0] 22)):
  iR W (some ⟨w.heap.size+1+1+1+1+1+1,0,none⟩) 7 [⟨[1,2],some ⟨w.heap.size,0,none⟩,2⟩,⟨[3,4],some ⟨w.heap.size+1,0,none⟩,2⟩,⟨[6],some ⟨w.heap.size+1+1,0,none⟩,1⟩,⟨[5],some ⟨w.heap.size+1+1+1,0,none⟩,1⟩,⟨[5],some ⟨w.heap.size+1+1+1+1,0,none⟩,1⟩,⟨[6],some ⟨w.heap.size+1+1+1+1+1,0,none⟩,1⟩,⟨[],none,0⟩]∧Below w.heap.size w W:=by
 have h0:W.heap[w.heap.size]? =some (.cells #[.int .i64 1,.int .i64 2] 3 (0,0)):=by
  rw[h];rw[aBR _ _ _ (by simp<;>omega),aBR _ _ _ (by simp<;>omega),aBR _ _ _ (by simp<;>omega),aBR _ _ _ (by simp<;>omega),aBR _ _ _ (by simp<;>omega),aBR _ _ _ (by simp<;>omega)];exact aU _ _ _ (by simp)
 have h1:W.heap[w.heap.size+1]? =some (.cells #[.int .i64 3,.int .i64 4] 3 (0,0)):=by
  rw[h];rw[aBR _ _ _ (by simp<;>omega),aBR _ _ _ (by simp<;>omega),aBR _ _ _ (by simp<;>omega),aBR _ _ _ (by simp<;>omega),aBR _ _ _ (by simp<;>omega)];exact aU _ _ _ (by simp)
 have h2:W.heap[w.heap.size+1+1]? =some (.cells #[.int .i64 6] 3 (0,0)):=by
  rw[h];rw[aBR _ _ _ (by simp<;>omega),aBR _ _ _ (by simp<;>omega),aBR _ _ _ (by simp<;>omega),aBR _ _ _ (by simp<;>omega)];exact aU _ _ _ (by simp)
 have h3:W.heap[w.heap.size+1+1+1]? =some (.cells #[.int .i64 5] 3 (0,0)):=by
  rw[h];rw[aBR _ _ _ (by simp<;>omega),aBR _ _ _ (by simp<;>omega),aBR _ _ _ (by simp<;>omega)];exact aU _ _ _ (by simp)
 have h4:W.heap[w.heap.size+1+1+1+1]? =some (.cells #[.int .i64 5] 3 (0,0)):=by
  rw[h];rw[aBR _ _ _ (by simp<;>omega),aBR _ _ _ (by simp<;>omega)];exact aU _ _ _ (by simp)
 have h5:W.heap[w.heap.size+1+1+1+1+1]? =some (.cells #[.int .i64 6] 3 (0,0)):=by
  rw[h];rw[aBR _ _ _ (by simp<;>omega)];exact aU _ _ _ (by simp)
 have hr:W.heap[w.heap.size+1+1+1+1+1+1]? =some (.cells #[.slice (some ⟨w.heap.size,0,none⟩) 2 2,.slice (some ⟨w.heap.size+1,0,none⟩) 2 2,.slice (some ⟨w.heap.size+1+1,0,none⟩) 1 1,.slice (some ⟨w.heap.size+1+1+1,0,none⟩) 1 1,.slice (some ⟨w.heap.size+1+1+1+1,0,none⟩) 1 1,.slice (some ⟨w.heap.size+1+1+1+1+1,0,none⟩) 1 1,.slice none 0 0] 22 (0,0)):=by rw[h];exact aU _ _ _ (by simp)
 refine⟨gD hr rfl ?_,?_⟩
 ·intro r hm;simp only[List.mem_cons,List.not_mem_nil,or_false] at hm;rcases hm with rfl|rfl|rfl|rfl|rfl|rfl|rfl
  ·exact cL (xs:= [1,2]) h0 rfl (dJ [1,2]) (by simp)
  ·exact cL (xs:= [3,4]) h1 rfl (dJ [3,4]) (by simp)
  ·exact cL (xs:= [6]) h2 rfl (dJ [6]) (by simp)
  ·exact cL (xs:= [5]) h3 rfl (dJ [5]) (by simp)
  ·exact cL (xs:= [5]) h4 rfl (dJ [5]) (by simp)
  ·exact cL (xs:= [6]) h5 rfl (dJ [6]) (by simp)
  ·exact(bN.nil W 0).ints
 ·rw[h];refine Below.alloc ?_ (by simp<;>omega) _;refine Below.alloc ?_ (by simp<;>omega) _;refine Below.alloc ?_ (by simp<;>omega) _;refine Below.alloc ?_ (by simp<;>omega) _;refine Below.alloc ?_ (by simp<;>omega) _;refine Below.alloc ?_ (by simp<;>omega) _;refine Below.alloc ?_ (by simp<;>omega) _;exact aBQ _ _
theorem JQ:(∀l∈([[1,2],[3,4],[6],[5],[5],[6],[]]:List (List Int)),∀x∈l,I64 x)∧∀l∈([[1,2],[3,4],[6],[5],[5],[6],[]]:List (List Int)),l.length≤2:=by
 refine⟨fun l hm=>?_,by decide⟩
 simp only[List.mem_cons,List.not_mem_nil,or_false] at hm
 rcases hm with rfl|rfl|rfl|rfl|rfl|rfl|rfl
 ·exact dJ [1,2]
 ·exact dJ [3,4]
 ·exact dJ [6]
 ·exact dJ [5]
 ·exact dJ [5]
 ·exact dJ [6]
 ·exact dJ []
theorem aBA(w W:World)(h:W=(((((((w.alloc (.cells #[.int .i64 1] 3)).alloc (.cells #[.int .i64 2,.int .i64 7] 3)).alloc (.cells #[.int .i64 3,.int .i64 4] 3)).alloc (.cells #[.int .i64 5,.int .i64 6] 3)).alloc (.cells #[.int .i64 1] 3)).alloc (.cells #[.int .i64 6] 3)).alloc (.cells #[.int .i64 6,.int .i64 1] 3)).alloc (.cells #[.slice (some ⟨w.heap.size,0,none⟩) 1 1,.slice (some ⟨w.heap.size+1,0,none⟩) 2 2,.slice (some ⟨w.heap.size+1+1,0,none⟩) 2 2,.slice (some ⟨w.heap.size+1+1+1,0,none⟩) 2 2,.slice (some ⟨w.heap.size+1+1+1+1,0,none⟩) 1 1,.slice (some ⟨w.heap.size+1+1+1+1+1,0,none⟩) 1 1,.slice (some ⟨w.heap.size+1+1+1+1+1+1,0,none⟩) 2 2,.slice none 0 0] 22)):
  iR W (some ⟨w.heap.size+1+1+1+1+1+1+1,0,none⟩) 8 [⟨[1],some ⟨w.heap.size,0,none⟩,1⟩,⟨[2,7],some ⟨w.heap.size+1,0,none⟩,2⟩,⟨[3,4],some ⟨w.heap.size+1+1,0,none⟩,2⟩,⟨[5,6],some ⟨w.heap.size+1+1+1,0,none⟩,2⟩,⟨[1],some ⟨w.heap.size+1+1+1+1,0,none⟩,1⟩,⟨[6],some ⟨w.heap.size+1+1+1+1+1,0,none⟩,1⟩,⟨[6,1],some ⟨w.heap.size+1+1+1+1+1+1,0,none⟩,2⟩,⟨[],none,0⟩]∧Below w.heap.size w W:=by
 have h0:W.heap[w.heap.size]? =some (.cells #[.int .i64 1] 3 (0,0)):=by
  rw[h];rw[aBR _ _ _ (by simp<;>omega),aBR _ _ _ (by simp<;>omega),aBR _ _ _ (by simp<;>omega),aBR _ _ _ (by simp<;>omega),aBR _ _ _ (by simp<;>omega),aBR _ _ _ (by simp<;>omega),aBR _ _ _ (by simp<;>omega)];exact aU _ _ _ (by simp)
 have h1:W.heap[w.heap.size+1]? =some (.cells #[.int .i64 2,.int .i64 7] 3 (0,0)):=by
  rw[h];rw[aBR _ _ _ (by simp<;>omega),aBR _ _ _ (by simp<;>omega),aBR _ _ _ (by simp<;>omega),aBR _ _ _ (by simp<;>omega),aBR _ _ _ (by simp<;>omega),aBR _ _ _ (by simp<;>omega)];exact aU _ _ _ (by simp)
 have h2:W.heap[w.heap.size+1+1]? =some (.cells #[.int .i64 3,.int .i64 4] 3 (0,0)):=by
  rw[h];rw[aBR _ _ _ (by simp<;>omega),aBR _ _ _ (by simp<;>omega),aBR _ _ _ (by simp<;>omega),aBR _ _ _ (by simp<;>omega),aBR _ _ _ (by simp<;>omega)];exact aU _ _ _ (by simp)
 have h3:W.heap[w.heap.size+1+1+1]? =some (.cells #[.int .i64 5,.int .i64 6] 3 (0,0)):=by
  rw[h];rw[aBR _ _ _ (by simp<;>omega),aBR _ _ _ (by simp<;>omega),aBR _ _ _ (by simp<;>omega),aBR _ _ _ (by simp<;>omega)];exact aU _ _ _ (by simp)
 have h4:W.heap[w.heap.size+1+1+1+1]? =some (.cells #[.int .i64 1] 3 (0,0)):=by
  rw[h];rw[aBR _ _ _ (by simp<;>omega),aBR _ _ _ (by simp<;>omega),aBR _ _ _ (by simp<;>omega)];exact aU _ _ _ (by simp)
 have h5:W.heap[w.heap.size+1+1+1+1+1]? =some (.cells #[.int .i64 6] 3 (0,0)):=by
  rw[h];rw[aBR _ _ _ (by simp<;>omega),aBR _ _ _ (by simp<;>omega)];exact aU _ _ _ (by simp)
 have h6:W.heap[w.heap.size+1+1+1+1+1+1]? =some (.cells #[.int .i64 6,.int .i64 1] 3 (0,0)):=by
  rw[h];rw[aBR _ _ _ (by simp<;>omega)];exact aU _ _ _ (by simp)
 have hr:W.heap[w.heap.size+1+1+1+1+1+1+1]? =some (.cells #[.slice (some ⟨w.heap.size,0,none⟩) 1 1,.slice (some ⟨w.heap.size+1,0,none⟩) 2 2,.slice (some ⟨w.heap.size+1+1,0,none⟩) 2 2,.slice (some ⟨w.heap.size+1+1+1,0,none⟩) 2 2,.slice (some ⟨w.heap.size+1+1+1+1,0,none⟩) 1 1,.slice (some ⟨w.heap.size+1+1+1+1+1,0,none⟩) 1 1,.slice (some ⟨w.heap.size+1+1+1+1+1+1,0,none⟩) 2 2,.slice none 0 0] 22 (0,0)):=by rw[h];exact aU _ _ _ (by simp)
 refine⟨gD hr rfl ?_,?_⟩
 ·intro r hm;simp only[List.mem_cons,List.not_mem_nil,or_false] at hm;rcases hm with rfl|rfl|rfl|rfl|rfl|rfl|rfl|rfl
  ·exact cL (xs:= [1]) h0 rfl (dJ [1]) (by simp)
  ·exact cL (xs:= [2,7]) h1 rfl (dJ [2,7]) (by simp)
  ·exact cL (xs:= [3,4]) h2 rfl (dJ [3,4]) (by simp)
  ·exact cL (xs:= [5,6]) h3 rfl (dJ [5,6]) (by simp)
  ·exact cL (xs:= [1]) h4 rfl (dJ [1]) (by simp)
  ·exact cL (xs:= [6]) h5 rfl (dJ [6]) (by simp)
  ·exact cL (xs:= [6,1]) h6 rfl (dJ [6,1]) (by simp)
  ·exact(bN.nil W 0).ints
 ·rw[h];refine Below.alloc ?_ (by simp<;>omega) _;refine Below.alloc ?_ (by simp<;>omega) _;refine Below.alloc ?_ (by simp<;>omega) _;refine Below.alloc ?_ (by simp<;>omega) _;refine Below.alloc ?_ (by simp<;>omega) _;refine Below.alloc ?_ (by simp<;>omega) _;refine Below.alloc ?_ (by simp<;>omega) _;refine Below.alloc ?_ (by simp<;>omega) _;exact aBQ _ _
theorem JP:(∀l∈([[1],[2,7],[3,4],[5,6],[1],[6],[6,1],[]]:List (List Int)),∀x∈l,I64 x)∧∀l∈([[1],[2,7],[3,4],[5,6],[1],[6],[6,1],[]]:List (List Int)),l.length≤2:=by
 refine⟨fun l hm=>?_,by decide⟩
 simp only[List.mem_cons,List.not_mem_nil,or_false] at hm
 rcases hm with rfl|rfl|rfl|rfl|rfl|rfl|rfl|rfl
 ·exact dJ [1]
 ·exact dJ [2,7]
 ·exact dJ [3,4]
 ·exact dJ [5,6]
 ·exact dJ [1]
 ·exact dJ [6]
 ·exact dJ [6,1]
 ·exact dJ []
theorem aAZ(w W:World)(h:W=(w.alloc (.cells #[.int .i64 0] 3)).alloc (.cells #[.slice (some ⟨w.heap.size,0,none⟩) 1 1] 22)):
  iR W (some ⟨w.heap.size+1,0,none⟩) 1 [⟨[0],some ⟨w.heap.size,0,none⟩,1⟩]∧Below w.heap.size w W:=by
 have h0:W.heap[w.heap.size]? =some (.cells #[.int .i64 0] 3 (0,0)):=by
  rw[h];rw[aBR _ _ _ (by simp<;>omega)];exact aU _ _ _ (by simp)
 have hr:W.heap[w.heap.size+1]? =some (.cells #[.slice (some ⟨w.heap.size,0,none⟩) 1 1] 22 (0,0)):=by rw[h];exact aU _ _ _ (by simp)
 refine⟨gD hr rfl ?_,?_⟩
 ·intro r hm;simp only[List.mem_cons,List.not_mem_nil,or_false] at hm;rcases hm with rfl
  ·exact cL (xs:= [0]) h0 rfl (dJ [0]) (by simp)
 ·rw[h];refine Below.alloc ?_ (by simp<;>omega) _;refine Below.alloc ?_ (by simp<;>omega) _;exact aBQ _ _
theorem JO:(∀l∈([[0]]:List (List Int)),∀x∈l,I64 x)∧∀l∈([[0]]:List (List Int)),l.length≤2:=by
 refine⟨fun l hm=>?_,by decide⟩
 simp only[List.mem_cons,List.not_mem_nil,or_false] at hm
 rcases hm with rfl
 ·exact dJ [0]
theorem aAY(w W:World)(h:W=(w.alloc (.cells #[.int .i64 1] 3)).alloc (.cells #[.slice (some ⟨w.heap.size,0,none⟩) 1 1] 22)):
  iR W (some ⟨w.heap.size+1,0,none⟩) 1 [⟨[1],some ⟨w.heap.size,0,none⟩,1⟩]∧Below w.heap.size w W:=by
 have h0:W.heap[w.heap.size]? =some (.cells #[.int .i64 1] 3 (0,0)):=by
  rw[h];rw[aBR _ _ _ (by simp<;>omega)];exact aU _ _ _ (by simp)
 have hr:W.heap[w.heap.size+1]? =some (.cells #[.slice (some ⟨w.heap.size,0,none⟩) 1 1] 22 (0,0)):=by rw[h];exact aU _ _ _ (by simp)
 refine⟨gD hr rfl ?_,?_⟩
 ·intro r hm;simp only[List.mem_cons,List.not_mem_nil,or_false] at hm;rcases hm with rfl
  ·exact cL (xs:= [1]) h0 rfl (dJ [1]) (by simp)
 ·rw[h];refine Below.alloc ?_ (by simp<;>omega) _;refine Below.alloc ?_ (by simp<;>omega) _;exact aBQ _ _
theorem JM:(∀l∈([[1]]:List (List Int)),∀x∈l,I64 x)∧∀l∈([[1]]:List (List Int)),l.length≤2:=by
 refine⟨fun l hm=>?_,by decide⟩
 simp only[List.mem_cons,List.not_mem_nil,or_false] at hm
 rcases hm with rfl
 ·exact dJ [1]
theorem aAX(w W:World)(h:W=w.alloc (.cells #[.slice none 0 0,.slice none 0 0] 22)):
  iR W (some ⟨w.heap.size,0,none⟩) 2 [⟨[],none,0⟩,⟨[],none,0⟩]∧Below w.heap.size w W:=by
 have hr:W.heap[w.heap.size]? =some (.cells #[.slice none 0 0,.slice none 0 0] 22 (0,0)):=by rw[h];exact aU _ _ _ (by simp)
 refine⟨gD hr rfl ?_,?_⟩
 ·intro r hm;simp only[List.mem_cons,List.not_mem_nil,or_false] at hm;rcases hm with rfl|rfl
  ·exact(bN.nil W 0).ints
  ·exact(bN.nil W 0).ints
 ·rw[h];refine Below.alloc ?_ (by simp<;>omega) _;exact aBQ _ _
theorem JL:(∀l∈([[],[]]:List (List Int)),∀x∈l,I64 x)∧∀l∈([[],[]]:List (List Int)),l.length≤2:=by
 refine⟨fun l hm=>?_,by decide⟩
 simp only[List.mem_cons,List.not_mem_nil,or_false] at hm
 rcases hm with rfl|rfl
 ·exact dJ []
 ·exact dJ []
theorem aAW(w W:World)(h:W=(((w.alloc (.cells #[.int .i64 1] 3)).alloc (.cells #[.int .i64 2,.int .i64 2] 3)).alloc (.cells #[.int .i64 1] 3)).alloc (.cells #[.slice (some ⟨w.heap.size,0,none⟩) 1 1,.slice (some ⟨w.heap.size+1,0,none⟩) 2 2,.slice (some ⟨w.heap.size+1+1,0,none⟩) 1 1] 22)):
  iR W (some ⟨w.heap.size+1+1+1,0,none⟩) 3 [⟨[1],some ⟨w.heap.size,0,none⟩,1⟩,⟨[2,2],some ⟨w.heap.size+1,0,none⟩,2⟩,⟨[1],some ⟨w.heap.size+1+1,0,none⟩,1⟩]∧Below w.heap.size w W:=by
 have h0:W.heap[w.heap.size]? =some (.cells #[.int .i64 1] 3 (0,0)):=by
  rw[h];rw[aBR _ _ _ (by simp<;>omega),aBR _ _ _ (by simp<;>omega),aBR _ _ _ (by simp<;>omega)];exact aU _ _ _ (by simp)
 have h1:W.heap[w.heap.size+1]? =some (.cells #[.int .i64 2,.int .i64 2] 3 (0,0)):=by
  rw[h];rw[aBR _ _ _ (by simp<;>omega),aBR _ _ _ (by simp<;>omega)];exact aU _ _ _ (by simp)
 have h2:W.heap[w.heap.size+1+1]? =some (.cells #[.int .i64 1] 3 (0,0)):=by
  rw[h];rw[aBR _ _ _ (by simp<;>omega)];exact aU _ _ _ (by simp)
 have hr:W.heap[w.heap.size+1+1+1]? =some (.cells #[.slice (some ⟨w.heap.size,0,none⟩) 1 1,.slice (some ⟨w.heap.size+1,0,none⟩) 2 2,.slice (some ⟨w.heap.size+1+1,0,none⟩) 1 1] 22 (0,0)):=by rw[h];exact aU _ _ _ (by simp)
 refine⟨gD hr rfl ?_,?_⟩
 ·intro r hm;simp only[List.mem_cons,List.not_mem_nil,or_false] at hm;rcases hm with rfl|rfl|rfl
  ·exact cL (xs:= [1]) h0 rfl (dJ [1]) (by simp)
  ·exact cL (xs:= [2,2]) h1 rfl (dJ [2,2]) (by simp)
  ·exact cL (xs:= [1]) h2 rfl (dJ [1]) (by simp)
 ·rw[h];refine Below.alloc ?_ (by simp<;>omega) _;refine Below.alloc ?_ (by simp<;>omega) _;refine Below.alloc ?_ (by simp<;>omega) _;refine Below.alloc ?_ (by simp<;>omega) _;exact aBQ _ _
theorem JK:(∀l∈([[1],[2,2],[1]]:List (List Int)),∀x∈l,I64 x)∧∀l∈([[1],[2,2],[1]]:List (List Int)),l.length≤2:=by
 refine⟨fun l hm=>?_,by decide⟩
 simp only[List.mem_cons,List.not_mem_nil,or_false] at hm
 rcases hm with rfl|rfl|rfl
 ·exact dJ [1]
 ·exact dJ [2,2]
 ·exact dJ [1]
theorem aAE(w W:World)(h:W=(w.alloc (.cells #[.int .i64 1] 3)).alloc (.cells #[.slice (some ⟨w.heap.size,0,none⟩) 1 1,.slice none 0 0] 22)):
  iR W (some ⟨w.heap.size+1,0,none⟩) 2 [⟨[1],some ⟨w.heap.size,0,none⟩,1⟩,⟨[],none,0⟩]∧Below w.heap.size w W:=by
 have h0:W.heap[w.heap.size]? =some (.cells #[.int .i64 1] 3 (0,0)):=by
  rw[h];rw[aBR _ _ _ (by simp<;>omega)];exact aU _ _ _ (by simp)
 have hr:W.heap[w.heap.size+1]? =some (.cells #[.slice (some ⟨w.heap.size,0,none⟩) 1 1,.slice none 0 0] 22 (0,0)):=by rw[h];exact aU _ _ _ (by simp)
 refine⟨gD hr rfl ?_,?_⟩
 ·intro r hm;simp only[List.mem_cons,List.not_mem_nil,or_false] at hm;rcases hm with rfl|rfl
  ·exact cL (xs:= [1]) h0 rfl (dJ [1]) (by simp)
  ·exact(bN.nil W 0).ints
 ·rw[h];refine Below.alloc ?_ (by simp<;>omega) _;refine Below.alloc ?_ (by simp<;>omega) _;exact aBQ _ _
theorem aBI(w W:World)(h:W=w.alloc (.cells #[.slice none 0 0] 22)):
  iR W (some ⟨w.heap.size,0,none⟩) 1 [⟨[],none,0⟩]∧Below w.heap.size w W:=by
 have hr:W.heap[w.heap.size]? =some (.cells #[.slice none 0 0] 22 (0,0)):=by rw[h];exact aU _ _ _ (by simp)
 refine⟨gD hr rfl ?_,?_⟩
 ·intro r hm;simp only[List.mem_cons,List.not_mem_nil,or_false] at hm;rcases hm with rfl
  ·exact(bN.nil W 0).ints
 ·rw[h];refine Below.alloc ?_ (by simp<;>omega) _;exact aBQ _ _
theorem QN:(∀l∈([[]]:List (List Int)),∀x∈l,I64 x)∧∀l∈([[]]:List (List Int)),l.length≤2:=by
 refine⟨fun l hm=>?_,by decide⟩
 simp only[List.mem_cons,List.not_mem_nil,or_false] at hm
 rcases hm with rfl
 ·exact dJ []
theorem CF(w:World):Calls Tryz.prog 8 #[] w fun e w'=>e=.returned (.bool true)∧Below w.heap.size w w':=by
 go_enter Tryz.func8,Tryz.ntmps8
 go_upto_region 2 with (fail)
 obtain⟨W,hW⟩:∃W,W=(((((((w.alloc (.cells #[.int .i64 1] 3)).alloc (.cells #[.int .i64 2] 3)).alloc (.cells #[.int .i64 3] 3)).alloc (.cells #[.int .i64 1,.int .i64 2] 3)).alloc (.cells #[.int .i64 2,.int .i64 3] 3)).alloc (.cells #[.int .i64 3,.int .i64 1] 3)).alloc (.cells #[.int .i64 1,.int .i64 1] 3)).alloc (.cells #[.slice none 0 0,.slice (some ⟨w.heap.size,0,none⟩) 1 1,.slice (some ⟨w.heap.size+1,0,none⟩) 1 1,.slice (some ⟨w.heap.size+1+1,0,none⟩) 1 1,.slice (some ⟨w.heap.size+1+1+1,0,none⟩) 2 2,.slice (some ⟨w.heap.size+1+1+1+1,0,none⟩) 2 2,.slice (some ⟨w.heap.size+1+1+1+1+1,0,none⟩) 2 2,.slice (some ⟨w.heap.size+1+1+1+1+1+1,0,none⟩) 2 2] 22):=⟨_,rfl⟩
 rw[←hW]
 obtain⟨hl,hb⟩:=aBJ w W hW
 obtain⟨A,hA⟩:∃A,A=w.heap.size+1+1+1+1+1+1+1:=⟨_,rfl⟩
 rw[←hA] at hl⊢
 have HL:=aBO hl
 have HB:=aBO hb
 clear hW hl hb hA
 go_wp2
 go_loopw [2,3,4,5] (fun s2 _ _ _ wr=>∃n:Nat,n≤4200∧s2=.int .i64 (n:Int)∧Hid (Below W.heap.size W wr)) (fun s2 _ _ _ _=>4300-(intOf s2).toNat)
 case atStart=>exact⟨0,by omega,rfl,aBQ _ _⟩
 case round=>
  obtain⟨n,hn,rfl,HBn⟩:=hrel;by_cases hlt:n<4096
  ·have hlt':(n:Int)<4096:=by omega
   obtain⟨q0,hq0⟩:∃q,q=n%8:=⟨_,rfl⟩
   obtain⟨d1,hd1⟩:∃q,q=n/8:=⟨_,rfl⟩
   obtain⟨q1,hq1⟩:∃q,q=d1%8:=⟨_,rfl⟩
   obtain⟨d2,hd2⟩:∃q,q=n/64:=⟨_,rfl⟩
   obtain⟨q2,hq2⟩:∃q,q=d2%8:=⟨_,rfl⟩
   obtain⟨q3,hq3⟩:∃q,q=n/512:=⟨_,rfl⟩
   obtain⟨m7,hm7⟩:∃q,q=n%7:=⟨_,rfl⟩
   obtain⟨m3,hm3⟩:∃q,q=n%3:=⟨_,rfl⟩
   have hall:aAS n q0 d1 q1 d2 q2 q3 m7 m3:=by
    unfold aAS;omega
   clear hq0 hd1 hq1 hd2 hq2 hq3 hm7 hm3;obtain⟨e0,e1,e1',e2,e2',e3,e7,e6,⟨b0,b1,b2,b3⟩,⟨b7,b6⟩,⟨z1,z2⟩⟩:=hall;have b0':(q0:Int)<8:=by omega
   have b1':(q1:Int)<8:=by omega
   have b2':(q2:Int)<8:=by omega
   have b3':(q3:Int)<8:=by omega
   have hlr:=HL.out.ext HBn.out;obtain⟨r0,c0,i0⟩:=yY hlr b0;obtain⟨r1,c1,i1⟩:=yY hlr b1;obtain⟨r2,c2,i2⟩:=yY hlr b2;obtain⟨r3,c3,i3⟩:=yY hlr b3;have l0:r0.xs.length≤2:=sM hlr b0 c0;have l1:r1.xs.length≤2:=sM hlr b1 c1;have l2:r2.xs.length≤2:=sM hlr b2 c2;have l3:r3.xs.length≤2:=sM hlr b3 c3;have HIR:Hid (∀r∈[r0,r1,r2,r3],dY wr r.sa r.xs.length r.xs∧r.xs.length≤2):=fun r hm=>by
    simp only[List.mem_cons,List.not_mem_nil,or_false] at hm;rcases hm with rfl|rfl|rfl|rfl
    ·exact⟨i0,l0⟩
    ·exact⟨i1,l1⟩
    ·exact⟨i2,l2⟩
    ·exact⟨i3,l3⟩
   have C0:=aBO c0;have C1:=aBO c1;have C2:=aBO c2;have C3:=aBO c3;have HIL:Hid (∀l∈[r0,r1,r2,r3].map (·.xs),∀x∈l,I64 x):=fun l hm=>by
    simp only[List.map_cons,List.map_nil,List.mem_cons,List.not_mem_nil,or_false] at hm;rcases hm with rfl|rfl|rfl|rfl
    ·exact vQ i0
    ·exact vQ i1
    ·exact vQ i2
    ·exact vQ i3
   clear hlr i0 i1 i2 i3 c0 c1 c2 c3 l0 l1 l2 l3;go_upto_region 5 with (fail)
   refine dL 25 [some 26,some 27,some 28,some 29,some 30,some 31,some 32,some 33,some 34,some 35,some 36,some 37,some 38,some 39,some 40,some 41,some 42,some 43,some 44,some 45,some 46,some 47,some 48,some 49,some 3] (by kernel_rfl) (by kernel_rfl) (dV [.val (.slice (some ⟨A,0,none⟩) 8 8),.val (.int .i64 (n:Int)),.val (.int .i64 (q0:Int)),.val (.pointer (some ⟨A,q0,none⟩)),.val (.slice r0.sa r0.xs.length r0.sc),.val (.slice (some ⟨A,0,none⟩) 8 8),.val (.int .i64 (n:Int)),.val (.int .i64 (d1:Int)),.val (.int .i64 (q1:Int)),.val (.pointer (some ⟨A,q1,none⟩)),.val (.slice r1.sa r1.xs.length r1.sc),.val (.slice (some ⟨A,0,none⟩) 8 8),.val (.int .i64 (n:Int)),.val (.int .i64 (d2:Int)),.val (.int .i64 (q2:Int)),.val (.pointer (some ⟨A,q2,none⟩)),.val (.slice r2.sa r2.xs.length r2.sc),.val (.slice (some ⟨A,0,none⟩) 8 8),.val (.int .i64 (n:Int)),.val (.int .i64 (q3:Int)),.val (.pointer (some ⟨A,q3,none⟩)),.val (.slice r3.sa r3.xs.length r3.sc),(.any fun v lo hi W=>∃g,v=.slice (some ⟨g,0,none⟩) 4 4∧W.heap[g]? =some (.cells #[(.slice r0.sa r0.xs.length r0.sc),(.slice r1.sa r1.xs.length r1.sc),(.slice r2.sa r2.xs.length r2.sc),(.slice r3.sa r3.xs.length r3.sc)] 22 (0,0))),(.any fun v lo hi W=>∃pa pc ba bc,v=dX pa 1 pc ba 4 bc∧cK 73 5 iZ W wr.heap.size (.slice ba 4 bc) (([r0,r1,r2,r3].map (·.xs)).map dO)∧bN W wr.heap.size (.slice pa 1 pc) [1]),(.new (bO none 0 0 none 0 0))]) (dN ?_) ?_ ?_
   ·intro k hk;simp only[List.mem_cons,List.not_mem_nil,or_false] at hk;rcases hk with rfl|rfl|rfl|rfl|rfl|rfl|rfl|rfl|rfl|rfl|rfl|rfl|rfl|rfl|rfl|rfl|rfl|rfl|rfl|rfl|rfl|rfl|rfl|rfl|rfl
    ·exact trivial
    ·exact trivial
    ·exact trivial
    ·exact trivial
    ·exact trivial
    ·exact trivial
    ·exact trivial
    ·exact trivial
    ·exact trivial
    ·exact trivial
    ·exact trivial
    ·exact trivial
    ·exact trivial
    ·exact trivial
    ·exact trivial
    ·exact trivial
    ·exact trivial
    ·exact trivial
    ·exact trivial
    ·exact trivial
    ·exact trivial
    ·exact trivial
    ·exact fun v lo hi w w' hb h=>by obtain⟨g,e,h⟩:=h;exact⟨g,e,aB hb h⟩
    ·exact fun v lo hi w w' hb h=>by obtain⟨pa,pc,ba,bc,e,h1,h2⟩:=h;exact⟨pa,pc,ba,bc,e,cK.ext h1 hb,h2.ext hb⟩
    ·exact trivial
   ·intro i hi ν lo hi' w1 K hB hD hK;have hcase:i=0∨i=1∨i=2∨i=3∨i=4∨i=5∨i=6∨i=7∨i=8∨i=9∨i=10∨i=11∨i=12∨i=13∨i=14∨i=15∨i=16∨i=17∨i=18∨i=19∨i=20∨i=21∨i=22∨i=23∨i=24:=by omega
    clear hi;rcases hcase with rfl|rfl|rfl|rfl|rfl|rfl|rfl|rfl|rfl|rfl|rfl|rfl|rfl|rfl|rfl|rfl|rfl|rfl|rfl|rfl|rfl|rfl|rfl|rfl|rfl
    ·clear hD;refine aC rfl rfl ?_;simp only[zA,zB,zC,zD,zE,zF,zJ,zK,zG,zH,zI] at hK⊢;go_simp;exact hK _ _ (aBQ _ _) rfl
    ·clear hD;refine aC rfl rfl ?_;simp only[zA,zB,zC,zD,zE,zF,zJ,zK,zG,zH,zI] at hK⊢;go_simp;exact hK _ _ (aBQ _ _) rfl
    ·have e1:=hD 1 (by kernel_rfl)
     replace e1:ν 1=(.int .i64 (n:Int)):=e1
     clear hD;refine aC rfl rfl ?_;simp only[zA,zB,zC,zD,zE,zF,zJ,zK,zG,zH,zI,e1] at hK⊢;go_simp;refine hK _ _ (aBQ _ _) ?_;show Value.int .i64 _=Value.int .i64 _
     congr 1
    ·have e0:=hD 0 (by kernel_rfl)
     replace e0:ν 0=(.slice (some ⟨A,0,none⟩) 8 8):=e0
     have e2:=hD 2 (by kernel_rfl)
     replace e2:ν 2=(.int .i64 (q0:Int)):=e2
     clear hD;refine aC rfl rfl ?_;simp only[zA,zB,zC,zD,zE,zF,zJ,zK,zG,zH,zI,e0,e2] at hK⊢;go_simp;exact hK _ _ (aBQ _ _) rfl
    ·have e3:=hD 3 (by kernel_rfl)
     replace e3:ν 3=(.pointer (some ⟨A,q0,none⟩)):=e3
     clear hD;refine aC rfl rfl ?_;simp only[zA,zB,zC,zD,zE,zF,zJ,zK,zG,zH,zI,e3] at hK⊢;have hcl:=aH hB C0.out;go_simp;exact hK _ _ (aBQ _ _) rfl
    ·clear hD;refine aC rfl rfl ?_;simp only[zA,zB,zC,zD,zE,zF,zJ,zK,zG,zH,zI] at hK⊢;go_simp;exact hK _ _ (aBQ _ _) rfl
    ·clear hD;refine aC rfl rfl ?_;simp only[zA,zB,zC,zD,zE,zF,zJ,zK,zG,zH,zI] at hK⊢;go_simp;exact hK _ _ (aBQ _ _) rfl
    ·have e6:=hD 6 (by kernel_rfl)
     replace e6:ν 6=(.int .i64 (n:Int)):=e6
     clear hD;refine aC rfl rfl ?_;simp only[zA,zB,zC,zD,zE,zF,zJ,zK,zG,zH,zI,e6] at hK⊢;go_simp;refine hK _ _ (aBQ _ _) ?_;show Value.int .i64 _=Value.int .i64 _
     congr 1
     exact Go.IntWalk.i64_in _ (by omega)
    ·have e7:=hD 7 (by kernel_rfl)
     replace e7:ν 7=(.int .i64 (d1:Int)):=e7
     clear hD;refine aC rfl rfl ?_;simp only[zA,zB,zC,zD,zE,zF,zJ,zK,zG,zH,zI,e7] at hK⊢;go_simp;refine hK _ _ (aBQ _ _) ?_;show Value.int .i64 _=Value.int .i64 _
     congr 1
    ·have e5:=hD 5 (by kernel_rfl)
     replace e5:ν 5=(.slice (some ⟨A,0,none⟩) 8 8):=e5
     have e8:=hD 8 (by kernel_rfl)
     replace e8:ν 8=(.int .i64 (q1:Int)):=e8
     clear hD;refine aC rfl rfl ?_;simp only[zA,zB,zC,zD,zE,zF,zJ,zK,zG,zH,zI,e5,e8] at hK⊢;go_simp;exact hK _ _ (aBQ _ _) rfl
    ·have e9:=hD 9 (by kernel_rfl)
     replace e9:ν 9=(.pointer (some ⟨A,q1,none⟩)):=e9
     clear hD;refine aC rfl rfl ?_;simp only[zA,zB,zC,zD,zE,zF,zJ,zK,zG,zH,zI,e9] at hK⊢;have hcl:=aH hB C1.out;go_simp;exact hK _ _ (aBQ _ _) rfl
    ·clear hD;refine aC rfl rfl ?_;simp only[zA,zB,zC,zD,zE,zF,zJ,zK,zG,zH,zI] at hK⊢;go_simp;exact hK _ _ (aBQ _ _) rfl
    ·clear hD;refine aC rfl rfl ?_;simp only[zA,zB,zC,zD,zE,zF,zJ,zK,zG,zH,zI] at hK⊢;go_simp;exact hK _ _ (aBQ _ _) rfl
    ·have e12:=hD 12 (by kernel_rfl)
     replace e12:ν 12=(.int .i64 (n:Int)):=e12
     clear hD;refine aC rfl rfl ?_;simp only[zA,zB,zC,zD,zE,zF,zJ,zK,zG,zH,zI,e12] at hK⊢;go_simp;refine hK _ _ (aBQ _ _) ?_;show Value.int .i64 _=Value.int .i64 _
     congr 1
     exact Go.IntWalk.i64_in _ (by omega)
    ·have e13:=hD 13 (by kernel_rfl)
     replace e13:ν 13=(.int .i64 (d2:Int)):=e13
     clear hD;refine aC rfl rfl ?_;simp only[zA,zB,zC,zD,zE,zF,zJ,zK,zG,zH,zI,e13] at hK⊢;go_simp;refine hK _ _ (aBQ _ _) ?_;show Value.int .i64 _=Value.int .i64 _
     congr 1
    ·have e11:=hD 11 (by kernel_rfl)
     replace e11:ν 11=(.slice (some ⟨A,0,none⟩) 8 8):=e11
     have e14:=hD 14 (by kernel_rfl)
     replace e14:ν 14=(.int .i64 (q2:Int)):=e14
     clear hD;refine aC rfl rfl ?_;simp only[zA,zB,zC,zD,zE,zF,zJ,zK,zG,zH,zI,e11,e14] at hK⊢;go_simp;exact hK _ _ (aBQ _ _) rfl
    ·have e15:=hD 15 (by kernel_rfl)
     replace e15:ν 15=(.pointer (some ⟨A,q2,none⟩)):=e15
     clear hD;refine aC rfl rfl ?_;simp only[zA,zB,zC,zD,zE,zF,zJ,zK,zG,zH,zI,e15] at hK⊢;have hcl:=aH hB C2.out;go_simp;exact hK _ _ (aBQ _ _) rfl
    ·clear hD;refine aC rfl rfl ?_;simp only[zA,zB,zC,zD,zE,zF,zJ,zK,zG,zH,zI] at hK⊢;go_simp;exact hK _ _ (aBQ _ _) rfl
    ·clear hD;refine aC rfl rfl ?_;simp only[zA,zB,zC,zD,zE,zF,zJ,zK,zG,zH,zI] at hK⊢;go_simp;exact hK _ _ (aBQ _ _) rfl
    ·have e18:=hD 18 (by kernel_rfl)
     replace e18:ν 18=(.int .i64 (n:Int)):=e18
     clear hD;refine aC rfl rfl ?_;simp only[zA,zB,zC,zD,zE,zF,zJ,zK,zG,zH,zI,e18] at hK⊢;go_simp;refine hK _ _ (aBQ _ _) ?_;show Value.int .i64 _=Value.int .i64 _
     congr 1
     exact Go.IntWalk.i64_in _ (by omega)
    ·have e17:=hD 17 (by kernel_rfl)
     replace e17:ν 17=(.slice (some ⟨A,0,none⟩) 8 8):=e17
     have e19:=hD 19 (by kernel_rfl)
     replace e19:ν 19=(.int .i64 (q3:Int)):=e19
     clear hD;refine aC rfl rfl ?_;simp only[zA,zB,zC,zD,zE,zF,zJ,zK,zG,zH,zI,e17,e19] at hK⊢;go_simp;exact hK _ _ (aBQ _ _) rfl
    ·have e20:=hD 20 (by kernel_rfl)
     replace e20:ν 20=(.pointer (some ⟨A,q3,none⟩)):=e20
     clear hD;refine aC rfl rfl ?_;simp only[zA,zB,zC,zD,zE,zF,zJ,zK,zG,zH,zI,e20] at hK⊢;have hcl:=aH hB C3.out;go_simp;exact hK _ _ (aBQ _ _) rfl
    ·have e4:=hD 4 (by kernel_rfl)
     replace e4:ν 4=(.slice r0.sa r0.xs.length r0.sc):=e4
     have e10:=hD 10 (by kernel_rfl)
     replace e10:ν 10=(.slice r1.sa r1.xs.length r1.sc):=e10
     have e16:=hD 16 (by kernel_rfl)
     replace e16:ν 16=(.slice r2.sa r2.xs.length r2.sc):=e16
     have e21:=hD 21 (by kernel_rfl)
     replace e21:ν 21=(.slice r3.sa r3.xs.length r3.sc):=e21
     clear hD;refine aC rfl rfl ?_;simp only[zA,zB,zC,zD,zE,zF,zJ,zK,zG,zH,zI,e4,e10,e16,e21] at hK⊢;go_simp;exact hK _ _ (aD _ _) ⟨_,rfl,aBS _ _⟩
    ·have e22:=hD 22 (by kernel_rfl);unfold dV at e22;simp only[List.getD_cons_zero,List.getD_cons_succ,gG] at e22;clear hD;refine aC rfl rfl ?_;simp only[zA,zB,zC,zD,zE,zF,zJ,zK,zG,zH,zI] at hK⊢;obtain⟨g9,e22',h22⟩:=e22;simp only[e22'] at hK⊢;go_simp;refine(vI (some ⟨g9,0,none⟩) 4 4 [r0,r1,r2,r3] w1 (gD h22 rfl (fun r hm=>(HIR.out r hm).1.ext hB)) (by omega) (fun r hm=>(HIR.out r hm).2)).mono ?_;rintro e w3 ⟨pa,pc,ba,bc,rfl,ho,hp,hb3⟩;exact hK _ _ hb3 ⟨pa,pc,ba,bc,rfl,ho.mono hB.size,hp.mono hB.size⟩
    ·clear hD;refine aC rfl rfl ?_;simp only[zA,zB,zC,zD,zE,zF,zJ,zK,zG,zH,zI] at hK⊢;go_simp;exact hK _ _ (aD _ _) ⟨rfl,by simp,aBS _ _⟩
   ·intro ν lo hi w1 hB hS hI hD;have e0:ν 0=(.slice (some ⟨A,0,none⟩) 8 8):=hS 0 (by omega);have e1:ν 1=(.int .i64 (n:Int)):=hS 1 (by omega);have e2:ν 2=(.int .i64 (q0:Int)):=hS 2 (by omega);have e3:ν 3=(.pointer (some ⟨A,q0,none⟩)):=hS 3 (by omega);have e4:ν 4=(.slice r0.sa r0.xs.length r0.sc):=hS 4 (by omega);have e5:ν 5=(.slice (some ⟨A,0,none⟩) 8 8):=hS 5 (by omega);have e6:ν 6=(.int .i64 (n:Int)):=hS 6 (by omega);have e7:ν 7=(.int .i64 (d1:Int)):=hS 7 (by omega);have e8:ν 8=(.int .i64 (q1:Int)):=hS 8 (by omega);have e9:ν 9=(.pointer (some ⟨A,q1,none⟩)):=hS 9 (by omega);have e10:ν 10=(.slice r1.sa r1.xs.length r1.sc):=hS 10 (by omega);have e11:ν 11=(.slice (some ⟨A,0,none⟩) 8 8):=hS 11 (by omega);have e12:ν 12=(.int .i64 (n:Int)):=hS 12 (by omega);have e13:ν 13=(.int .i64 (d2:Int)):=hS 13 (by omega);have e14:ν 14=(.int .i64 (q2:Int)):=hS 14 (by omega);have e15:ν 15=(.pointer (some ⟨A,q2,none⟩)):=hS 15 (by omega);have e16:ν 16=(.slice r2.sa r2.xs.length r2.sc):=hS 16 (by omega);have e17:ν 17=(.slice (some ⟨A,0,none⟩) 8 8):=hS 17 (by omega);have e18:ν 18=(.int .i64 (n:Int)):=hS 18 (by omega);have e19:ν 19=(.int .i64 (q3:Int)):=hS 19 (by omega);have e20:ν 20=(.pointer (some ⟨A,q3,none⟩)):=hS 20 (by omega);have e21:ν 21=(.slice r3.sa r3.xs.length r3.sc):=hS 21 (by omega);have e22:=hS 22 (by omega);unfold dV at e22;simp only[List.getD_cons_zero,List.getD_cons_succ,gG] at e22;have e23:=hS 23 (by omega);unfold dV at e23;simp only[List.getD_cons_zero,List.getD_cons_succ,gG] at e23;obtain⟨e24,l24,h24⟩:=hS 24 (by omega);clear hS;simp only[List.drop_succ_cons,List.drop_zero,zA,zB,zC,zD,zE,zF,zJ,zK,zG,zH,zI,e0,e1,e2,e3,e4,e5,e6,e7,e8,e9,e10,e11,e12,e13,e14,e15,e16,e17,e18,e19,e20,e21,e24];obtain⟨pa,pc,ba,bc,e23',ho,hp⟩:=e23;simp only[e23'];have i24:=hI 24 (by omega);generalize lo 24=F at *;refine wpList_store_row (o:=⟨none,.store 25 _ _,_,_,_,_⟩) rfl 25 _ _ rfl F #[.slice pa 1 pc,.slice ba 4 bc] rfl rfl 25 _ h24 aS rfl (by simp[Value.oneCell']) ?_;have hF1:=i24.1;have hb6:=below_setRow (g:=F) hB hF1 #[.slice pa 1 pc,.slice ba 4 bc];have hr6:=setRow_heap w1 F _ #[.slice pa 1 pc,.slice ba 4 bc] _ _ h24;have ho6:=cK.kept ho (ET w1 F #[.slice pa 1 pc,.slice ba 4 bc]) (.inr (cH ho.1 h24 (by decide)));have hp6:=bN.kept hp (ET w1 F #[.slice pa 1 pc,.slice ba 4 bc]) (.inr (cH hp.1 h24 (by decide)));have hf6:=QZ HIL.out ho6 hp6;generalize w1.setRow F #[.slice pa 1 pc,.slice ba 4 bc]=W6 at *;have HF6:=aBO hf6;have HR6:=aBO hr6;have HB6:=aBO (aA HBn.out hb6);obtain⟨f,hfe⟩:∃f,f=fOf pa pc ba bc ([r0,r1,r2,r3].map (·.xs)):=⟨_,rfl⟩
    have hfn:f.pn≤17592186044416:=by rw[hfe];show 1≤_;omega
    have hFV:(bO pa 1 pc ba 4 bc:Obj)=fO f:=by rw[hfe];rfl
    rw[←hfe] at HF6;have HR7:Hid (W6.heap[F]? =some (fO f)):=by rw[Hid,←hFV];exact HR6.out
    clear hI hD hB e0 e1 e2 e3 e4 e5 e6 e7 e8 e9 e10 e11 e12 e13 e14 e15 e16 e17 e18 e19 e20 e21 e22 e24 e23' ho hp h24 i24 hF1 hb6 hr6 ho6 hp6 hf6 hfe hFV HR6 HIR C0 C1 C2 C3 HIL
    go_upto_region 8 with (first
     |((with_reducible show wpList _ _ _ (⟨some 50,_,_,_,_,_⟩ :: _) _ _);refine wpList_load_row (o:=⟨some 50,.load 25 _,_,_,_,_⟩) rfl 25 _ rfl F rfl 25 _ (0,0) _ HR7.out Tryz.underlying25 rfl aS ?_)
     |(go_at_call 6
       refine(nK f hfn W6 HF6.out).mono ?_;rintro e w7 ⟨rfl,hb7⟩;have HB7:=aBO (aA HB6.out hb7);have HF7:=aBO (HF6.out.ext hb7);have HR8:=aBO (aB hb7 HR7.out)
       clear hb7))
    clear HF6 HR7 HB6
    go_upto_region 9 with (first
     |((with_reducible show wpList _ _ _ (⟨some 54,_,_,_,_,_⟩ :: _) _ _);refine wpList_load_row (o:=⟨some 54,.load 25 _,_,_,_,_⟩) rfl 25 _ rfl F rfl 25 _ (0,0) _ HR8.out Tryz.underlying25 rfl aS ?_)
     |(go_at_call 31
       refine(tV f w7 HF7.out).mono ?_;rintro e w8 ⟨ta,tn,tc,ls,en,rfl,ht8,htn,hnb,hb8⟩;have HT8:=aBO ht8;have HNB:=aBO hnb;have HB8:=aBO (aA HB7.out hb8);have HF8:=aBO (HF7.out.ext hb8);have HR9:=aBO (aB hb8 HR8.out)
       clear ht8 hnb hb8))
    clear HF7 HR8 HB7;have hn5:n≤5000:=by omega
    have HTU:Hid (Calls Tryz.prog 50 #[eO f,.slice ta tn tc,.int .i64 (n:Int)] w8 fun e w''=>e=.returned (.bool true)∧Below w8.heap.size w8 w''):=vV f hfn ta tn tc ls n hn5 htn w8 HF8.out HT8.out HNB.out;have hb0:Below w8.heap.size w8 w8:=aBQ _ _;clear htn hn5 HF8
    go_cut [67] (fun s67 wx=>s67=.bool false∧Hid (Below w8.heap.size w8 wx))
    case first=>
     by_cases hm:m7=0
     ·have d3:((m7:Int)==0)=true:=by simp;omega
      have d4:(m7:Int)=0:=by omega
      clear hm
      go_wp2_with (first
       |((with_reducible show wpList _ _ _ (⟨some 62,_,_,_,_,_⟩ :: _) _ _);refine bS (o:=⟨some 62,.load 25 _,_,_,_,_⟩) (by kernel_rfl) 25 _ rfl F rfl 25 _ (0,0) _ HR9.out Tryz.underlying25 rfl aS ?_)
       |(go_at_call 50;(with_reducible refine HTU.out.mono ?_);rintro e wk ⟨rfl,hbk⟩))
      go_meet
      exact⟨rfl,by assumption⟩
     ·have d3:((m7:Int)==0)=false:=by simp;omega
      have d4:¬(m7:Int)=0:=by omega
      clear hm;go_wp2
      go_meet
      exact⟨rfl,by assumption⟩
    case rest=>as_aux_lemma=>
     obtain⟨rfl,HBc⟩:=hcut;have HB9:=aBO (aA HB8.out HBc.out);clear HBc HTU;go_wp2
     go_roundw
     case rel=>exact⟨n+1+m3,by omega,by go_num,HB9⟩
     case measure=>simp[intOf];omega
  ·have hlt':¬(n:Int)<4096:=by omega
   obtain⟨w0,hw0⟩:∃x,x=wr:=⟨_,rfl⟩
   rw[←hw0] at HBn⊢;have HBW:=aBO (aA HB.out HBn.out);clear HL HB hw0 HBn
   go_upto_region 12 with (first
    |(go_at_call 49
      have h9:=aAW w9 _ rfl;have hof:=jN (c:=3) (L:= [[1],[2,2],[1]]) rfl h9.1 JK.1 JK.2 h9.2;clear h9;refine hof.mono ?_;clear hof;rintro e w10 ⟨f10,rfl,hp10,hf10,hb10⟩;have HP10:=aBO hp10;have HF10:=aBO hf10;have HB10:=aBO hb10
      clear hp10 hf10 hb10)
    |(go_at_call 49
      have hof:=jN (c:=0) (L:= []) (rs:= []) rfl (⟨kM.nil 1 csL w8,fun r hr=>by cases hr⟩:iR w8 none 0 []) (fun l hl=>by cases hl) (fun l hl=>by cases hl) (aBQ _ _);refine hof.mono ?_;clear hof;rintro e w9 ⟨f9,rfl,hp9,hf9,hb9⟩;have HP9:=aBO hp9;have HF9:=aBO hf9;have HB9:=aBO hb9
      clear hp9 hf9 hb9)
    |(go_at_call 49
      have h9:=aAX w7 _ rfl;have hof:=jN (c:=2) (L:= [[],[]]) rfl h9.1 JL.1 JL.2 h9.2;clear h9;refine hof.mono ?_;clear hof;rintro e w8 ⟨f8,rfl,hp8,hf8,hb8⟩;have HP8:=aBO hp8;have HF8:=aBO hf8;have HB8:=aBO hb8
      clear hp8 hf8 hb8)
    |(go_at_call 49
      have h9:=aAY w6 _ rfl;have hof:=jN (c:=1) (L:= [[1]]) rfl h9.1 JM.1 JM.2 h9.2;clear h9;refine hof.mono ?_;clear hof;rintro e w7 ⟨f7,rfl,hp7,hf7,hb7⟩;have HP7:=aBO hp7;have HF7:=aBO hf7;have HB7:=aBO hb7
      clear hp7 hf7 hb7)
    |(go_at_call 49
      have h9:=aAZ w5 _ rfl;have hof:=jN (c:=1) (L:= [[0]]) rfl h9.1 JO.1 JO.2 h9.2;clear h9;refine hof.mono ?_;clear hof;rintro e w6 ⟨f6,rfl,hp6,hf6,hb6⟩;have HP6:=aBO hp6;have HF6:=aBO hf6;have HB6:=aBO hb6
      clear hp6 hf6 hb6)
    |(go_at_call 49
      have h9:=aBA w4 _ rfl;have hof:=jN (c:=8) (L:= [[1],[2,7],[3,4],[5,6],[1],[6],[6,1],[]]) rfl h9.1 JP.1 JP.2 h9.2;clear h9;refine hof.mono ?_;clear hof;rintro e w5 ⟨f5,rfl,hp5,hf5,hb5⟩;have HP5:=aBO hp5;have HF5:=aBO hf5;have HB5:=aBO hb5
      clear hp5 hf5 hb5)
    |(go_at_call 49
      have h9:=aBB w3 _ rfl;have hof:=jN (c:=7) (L:= [[1,2],[3,4],[6],[5],[5],[6],[]]) rfl h9.1 JQ.1 JQ.2 h9.2;clear h9;refine hof.mono ?_;clear hof;rintro e w4 ⟨f4,rfl,hp4,hf4,hb4⟩;have HP4:=aBO hp4;have HF4:=aBO hf4;have HB4:=aBO hb4
      clear hp4 hf4 hb4)
    |(go_at_call 49
      have h9:=aBC w2 _ rfl;have hof:=jN (c:=6) (L:= [[1],[2,3],[3,4],[2],[1,5],[]]) rfl h9.1 JR.1 JR.2 h9.2;clear h9;refine hof.mono ?_;clear hof;rintro e w3 ⟨f3,rfl,hp3,hf3,hb3⟩;have HP3:=aBO hp3;have HF3:=aBO hf3;have HB3:=aBO hb3
      clear hp3 hf3 hb3)
    |(go_at_call 49
      have h9:=aBD w1 _ rfl;have hof:=jN (c:=4) (L:= [[1,2],[2],[1,3],[]]) rfl h9.1 JS.1 JS.2 h9.2;clear h9;refine hof.mono ?_;clear hof;rintro e w2 ⟨f2,rfl,hp2,hf2,hb2⟩;have HP2:=aBO hp2;have HF2:=aBO hf2;have HB2:=aBO hb2
      clear hp2 hf2 hb2)
    |(go_at_call 49
      have h9:=aBK w0 _ rfl;have hof:=jN (c:=6) (L:= [[1],[2,5],[3],[2,4],[1],[]]) rfl h9.1 QO.1 QO.2 h9.2;clear h9;refine hof.mono ?_;clear hof;rintro e w1 ⟨f1,rfl,hp1,hf1,hb1⟩;have HP1:=aBO hp1;have HF1:=aBO hf1;have HB1:=aBO hb1
      clear hp1 hf1 hb1))
   obtain⟨M,hM⟩:∃x,x=w10.heap.size:=⟨_,rfl⟩
   obtain⟨WM,hWM⟩:∃x,x=w10.alloc (.cells ([f1,f2,f3,f4,f5,f6,f7,f8,f9,f10].flatMap csF).toArray 25):=⟨_,rfl⟩
   have hrc:kM 2 csF WM (some ⟨M,0,none⟩) 10 [f1,f2,f3,f4,f5,f6,f7,f8,f9,f10]:=by rw[hWM];exact VO w10 M hM.symm _ ZB (by simp)
   have hbm:Below w10.heap.size w10 WM:=by rw[hWM];exact aD _ _
   obtain⟨fs,hfs⟩:∃x,x= [f1,f2,f3,f4,f5,f6,f7,f8,f9,f10]:=⟨_,rfl⟩
   have hfo:∀f∈fs,jH WM f∧f.pn=1:=by
    intro f hm;rw[hfs] at hm;simp only[List.mem_cons,List.not_mem_nil,or_false] at hm;have g10:=hbm;have g9:=aA HB10.out g10;have g8:=aA HB9.out g9;have g7:=aA HB8.out g8;have g6:=aA HB7.out g7;have g5:=aA HB6.out g6;have g4:=aA HB5.out g5;have g3:=aA HB4.out g4;have g2:=aA HB3.out g3;have g1:=aA HB2.out g2;rcases hm with rfl|rfl|rfl|rfl|rfl|rfl|rfl|rfl|rfl|rfl
    ·exact⟨HF1.out.ext g1,HP1.out⟩
    ·exact⟨HF2.out.ext g2,HP2.out⟩
    ·exact⟨HF3.out.ext g3,HP3.out⟩
    ·exact⟨HF4.out.ext g4,HP4.out⟩
    ·exact⟨HF5.out.ext g5,HP5.out⟩
    ·exact⟨HF6.out.ext g6,HP6.out⟩
    ·exact⟨HF7.out.ext g7,HP7.out⟩
    ·exact⟨HF8.out.ext g8,HP8.out⟩
    ·exact⟨HF9.out.ext g9,HP9.out⟩
    ·exact⟨HF10.out.ext g10,HP10.out⟩
   have HFO:=aBO hfo;rw[←hfs] at hrc;have HRC:=aBO hrc;have HBM:Hid (Below w.heap.size w WM):=aA HBW.out (aA HB1.out (aA HB2.out (aA HB3.out (aA HB4.out (aA HB5.out (aA HB6.out (aA HB7.out (aA HB8.out (aA HB9.out (aA HB10.out hbm))))))))));rw[show w10.alloc (Obj.cells #[.slice f1.pa f1.pn f1.pc,.slice f1.ba f1.bn f1.bc,.slice f2.pa f2.pn f2.pc,.slice f2.ba f2.bn f2.bc,.slice f3.pa f3.pn f3.pc,.slice f3.ba f3.bn f3.bc,.slice f4.pa f4.pn f4.pc,.slice f4.ba f4.bn f4.bc,.slice f5.pa f5.pn f5.pc,.slice f5.ba f5.bn f5.bc,.slice f6.pa f6.pn f6.pc,.slice f6.ba f6.bn f6.bc,.slice f7.pa f7.pn f7.pc,.slice f7.ba f7.bn f7.bc,.slice f8.pa f8.pn f8.pc,.slice f8.ba f8.bn f8.bc,.slice f9.pa f9.pn f9.pc,.slice f9.ba f9.bn f9.bc,.slice f10.pa f10.pn f10.pc,.slice f10.ba f10.bn f10.bc] 25)=WM from hWM.symm];rw[←hM];clear hWM hrc hbm hfo hM HBW HF1 HP1 HB1 HF2 HP2 HB2 HF3 HP3 HB3 HF4 HP4 HB4 HF5 HP5 HB5 HF6 HP6 HB6 HF7 HP7 HB7 HF8 HP8 HB8 HF9 HP9 HB9 HF10 HP10 HB10 hfs;go_wp2
   go_loopw [7,8,9] (fun s7 _ _ wr=>∃i:Nat,i≤10∧s7=.int .i64 (i:Int)∧Hid (Below WM.heap.size WM wr)) (fun s7 _ _ _=>10-(intOf s7).toNat)
   case atStart=>exact⟨0,by omega,rfl,aBQ _ _⟩
   case round=>
    obtain⟨i,hi,rfl,HBi⟩:=hrel;by_cases hi10:i<10
    ·have hi10':(i:Int)<10:=by omega
     obtain⟨V,hV⟩:∃x,x=wr:=⟨_,rfl⟩
     rw[←hV] at HBi⊢;clear hV;obtain⟨f,hf⟩:∃f,f=fs.getD i aAM:=⟨_,rfl⟩
     have hmem:f∈fs:=by rw[hf,aBT,aBU (by rw[HRC.out.1];exact hi10)];exact aBZ _
     have hrg:∀W',Below V.heap.size V W'→W'.rangeAt M (i*2) (csF f):=fun W' hb=>by
      obtain⟨b,o,e,hc⟩:=HRC.out.at_ (k:=i) hi10 aAM;injection e with e;injection e with e1 e2;subst e1 e2;rw[←hf] at hc;intro j v hv;have hj:j<2:=(aBX.1 hv).1;have:=hc j hj;rw[hv,Nat.zero_add] at this;exact aH (aA HBi.out hb) this
     have HRG:=aBO hrg;have HFV:=aBO ((HFO.out f hmem).1.ext HBi.out);have hfn:f.pn≤17592186044416:=by rw[(HFO.out f hmem).2];omega
     clear hrg hmem hf
     go_upto_region 16 with (first
      |((with_reducible show wpList _ _ _ (⟨some 129,_,_,_,_,_⟩ :: _) _ _);refine wpList_load_mid (op:=⟨some 129,.load 25 _,_,_,_,_⟩) rfl 25 _ rfl M (i*2) rfl (csF f) _ (HRG.out _ (aBQ _ _)) Tryz.underlying25 rfl (by kernel_rfl) ?_)
      |(go_at_call 31
        refine(tV f V HFV.out).mono ?_;rintro e w7 ⟨ta,tn,tc,ls,en,rfl,ht7,htn,hnb,hb7⟩;have HT7:=aBO ht7;have HNB:=aBO hnb;have HB7:=aBO hb7
        clear ht7 hnb hb7))
     have HF7:=aBO (HFV.out.ext HB7.out);have hi5:i≤5000:=by omega
     have HTB:Hid (∀W',Below w7.heap.size w7 W'→Calls Tryz.prog 6 #[.agg (csF f).toArray] W' fun e w''=>e=.returned (.bool true)∧Below w7.heap.size w7 w''):=fun W' hb=>(nK f hfn W' (HF7.out.ext hb)).mono fun e w'' h=>⟨h.1,aA hb h.2⟩;have HTU:Hid (∀W',Below w7.heap.size w7 W'→Calls Tryz.prog 50 #[.agg (csF f).toArray,.slice ta tn tc,.int .i64 (i:Int)] W' fun e w''=>e=.returned (.bool true)∧Below w7.heap.size w7 w''):=fun W' hb=>(vV f hfn ta tn tc ls i hi5 htn W' (HF7.out.ext hb) (HT7.out.ext hb) HNB.out).mono fun e w'' h=>⟨h.1,aA hb h.2⟩;have QR:Hid (∀W',Below w7.heap.size w7 W'→W'.rangeAt M (i*2) (csF f)):=fun W' hb=>HRG.out W' (aA HB7.out hb);have hb0:Below w7.heap.size w7 w7:=aBQ _ _;clear HRG HFV htn hi5
     go_cut [148] (fun s148 wx=>s148=.bool false∧Hid (Below w7.heap.size w7 wx))
     case first=>
      go_wp2_with (first
       |((with_reducible show wpList _ _ _ (⟨some 136,_,_,_,_,_⟩ :: _) _ _);refine wpList_load_mid (op:=⟨some 136,.load 25 _,_,_,_,_⟩) rfl 25 _ rfl M (i*2) rfl (csF f) _ (QR.out _ (by assumption)) Tryz.underlying25 rfl (by kernel_rfl) ?_)
       |((with_reducible show wpList _ _ _ (⟨some 143,_,_,_,_,_⟩ :: _) _ _);refine gF (o:=⟨some 143,.load 25 _,_,_,_,_⟩) (by kernel_rfl) 25 _ rfl M (i*2) rfl (csF f) _ (QR.out _ (by assumption)) Tryz.underlying25 rfl (by kernel_rfl) ?_)
       |(go_at_call 6;(with_reducible refine(HTB.out _ (by assumption)).mono ?_);rintro e wk ⟨rfl,hbk⟩)
       |(go_at_call 50;(with_reducible refine(HTU.out _ (by assumption)).mono ?_);rintro e wk ⟨rfl,hbk⟩))
      go_meet
      exact⟨rfl,by assumption⟩
     case rest=>as_aux_lemma=>
      obtain⟨rfl,HBc⟩:=hcut;have HB9:=aBO (aA HBi.out (aA HB7.out HBc.out));clear HTB HTU QR HBc;go_wp2
      go_roundw
      case rel=>exact⟨i+1,by omega,by go_num,HB9⟩
      case measure=>simp[intOf];omega
    ·have hi10':¬(i:Int)<10:=by omega
     obtain⟨wz,hwz⟩:∃x,x=wr:=⟨_,rfl⟩
     rw[←hwz] at HBi⊢;have HBZ:=aBO (aA HBM.out HBi.out);clear hwz HBi HBM HRC HFO
     go_upto_region 19 with (
      (go_at_call 49
       have h9:=aAE wz _ rfl;have hof:=WE (c:=2) rfl h9.1 h9.2;clear h9;refine hof.mono ?_;clear hof;rintro e w18 ⟨pa,pc,gb,bc,rfl,ho,hp,hb18⟩;have HO:=aBO ho;have HP:=aBO hp;have HB18:=aBO hb18
       clear ho hp hb18))
     obtain⟨W9,hW9⟩:∃x,x=w18.alloc (bO pa 1 pc (some ⟨gb,0,none⟩) 2 bc):=⟨_,rfl⟩
     have hb9:Below w18.heap.size w18 W9:=by rw[hW9];exact aD _ _
     have hr9:W9.heap[w18.heap.size]? =some (bO pa 1 pc (some ⟨gb,0,none⟩) 2 bc):=by rw[hW9];exact aBS _ _
     have HO9:=aBO (cK.ext HO.out hb9);have HP9:=aBO (HP.out.ext hb9);have HB9:=aBO (aA HB18.out hb9);have HR9:=aBO hr9;have hlF:wz.heap.size≤w18.heap.size:=HB18.out.size;rw[show w18.alloc (Obj.cells #[.slice pa 1 pc,.slice (some ⟨gb,0,none⟩) 2 bc] 25)=W9 from hW9.symm];generalize w18.heap.size=F at *;clear hW9 hb9 hr9 HO HP HB18;obtain⟨k6,f6,l6⟩:=XR HO9.out;have HR10:=aBO (aK (bA W9 gb 6 (.int .i64 9)) HR9.out (fun e=>cH HO9.out.1 HR9.out (by decide) (by rw[←Option.some.inj e];rfl)));have hbad:=WZ HO9.out HP9.out;have hlow:wz.heap.size≤gb:=(HO9.out.low rfl).1;have hbb:Below wz.heap.size wz (W9.setCell ⟨gb,6,none⟩ (.int .i64 9)):=HB9.out.setCell (p:=⟨gb,6,none⟩) hlow _;have c153:W9.cell? ⟨F,1,none⟩=some (.slice (some ⟨gb,0,none⟩) 2 bc):=by rw[aBP _ _ _ _ _ _ HR9.out];rfl
     have HBAD:=aBO hbad;have HBB:=aBO hbb;clear hbad hbb hlow;go_upto_region 20 with (fail)
     obtain⟨W0,hW0⟩:∃x,x=W9.setCell ⟨gb,6,none⟩ (.int .i64 9):=⟨_,rfl⟩
     rw[←hW0] at HR10 HBAD HBB⊢;clear hW0 HO9 HP9 HB9 HR9 k6 f6 l6 c153 hlF;obtain⟨g,hg⟩:∃g,g=aAO pa pc (some ⟨gb,0,none⟩) bc:=⟨_,rfl⟩
     rw[←hg] at HBAD;have hgn:g.pn≤17592186044416:=by rw[hg];show 1≤_;omega
     have hgv:bO pa 1 pc (some ⟨gb,0,none⟩) 2 bc=fO g:=by rw[hg]
     have QF:Hid (∀W',Below W0.heap.size W0 W'→W'.heap[F]? =some (fO g)):=fun W' hb=>by rw[←hgv];exact aB hb HR10.out
     have HTB:Hid (∀W',Below W0.heap.size W0 W'→Calls Tryz.prog 6 #[eO g] W' fun e w''=>e=.returned (.bool true)∧Below W0.heap.size W0 w''):=fun W' hb=>(nK g hgn W' (HBAD.out.ext hb)).mono fun e w'' h=>⟨h.1,aA hb h.2⟩;have HTT:Hid (∀W',Below W0.heap.size W0 W'→Calls Tryz.prog 7 #[eO g,.slice none 0 0,.int .i64 0] W' fun e w''=>e=.returned (.bool true)∧Below W0.heap.size W0 w''):=fun W' hb=>(oO g hgn none 0 0 [] 0 AU W' (HBAD.out.ext hb) (DY _)).mono fun e w'' h=>⟨h.1,aA hb h.2⟩;have HAW:Hid (∀W',Below W0.heap.size W0 W'→Calls Tryz.prog 33 #[] W' fun e w''=>e=.returned (.bool true)∧Below W0.heap.size W0 w''):=fun W' hb=>(nD W').mono fun e w'' h=>⟨h.1,aA hb h.2⟩;have hb0:Below W0.heap.size W0 W0:=aBQ _ _;clear HR10 HBAD hgv hg
     go_wp2_with (first
      |((with_reducible show wpList _ _ _ (⟨some 157,_,_,_,_,_⟩ :: _) _ _);refine wpList_load_row (o:=⟨some 157,.load 25 _,_,_,_,_⟩) rfl 25 _ rfl F rfl 25 _ (0,0) _ (QF.out _ (by assumption)) Tryz.underlying25 rfl aS ?_)
      |((with_reducible show wpList _ _ _ (⟨some 160,_,_,_,_,_⟩ :: _) _ _);refine bS (o:=⟨some 160,.load 25 _,_,_,_,_⟩) (by kernel_rfl) 25 _ rfl F rfl 25 _ (0,0) _ (QF.out _ (by assumption)) Tryz.underlying25 rfl aS ?_)
      |(go_at_call 6;(with_reducible refine(HTB.out _ (by assumption)).mono ?_);rintro e wk ⟨rfl,hbk⟩)
      |(go_at_call 33;refine(HAW.out _ (by assumption)).mono ?_;rintro e wk ⟨rfl,hbk⟩)
      |(go_at_call 7
        have h9:=VI wo _ rfl;have htl:=h9.1;have hbl:=h9.2;clear h9;refine(oO fo (by rw[HPO.out];omega) _ 1 1 _ 0 AU _ (HFO.out.ext hbl) htl).mono ?_;rintro e wq ⟨rfl,hbq⟩;have hbq2:=aA HBO.out (aA hbl hbq)
        clear htl hbl hbq)
      |(go_at_call 49
        have h9:=aBI wt _ rfl;have hof:=jN (c:=1) (L:= [[]]) rfl h9.1 QN.1 QN.2 h9.2;clear h9;refine hof.mono ?_;clear hof;rintro e wo ⟨fo,rfl,hpo,hfo,hbo⟩;have HPO:=aBO hpo;have HFO:=aBO hfo;have HBO:=aBO (aA hbt hbo)
        clear hpo hfo hbo)
      |(go_at_call 7;(with_reducible refine(HTT.out _ (by assumption)).mono ?_);rintro e wt ⟨rfl,hbt⟩))
     go_ret
     exact⟨rfl,aA HBZ.out (aA HBB.out (by assumption))⟩
end

section
open Go.ChangeShapes Go.WideShapes Go.ChangeAt Go.RowKit
theorem aBH:ownKnob Tryz.prog.godebug=none:=by kernel_rfl
end
end Go.Proofs.YtblhmdhfhaencaaGreat
