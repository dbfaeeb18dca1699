/-
 law29's example:the machine,the function,the target.
-/
import Derived.Test.YtchdkjenhppleaaGreatA0
import Derived.Test.YtchdkjenhppleaaGreatMK
import Derived.Test.YtchdkjenhppleaaGreatTA
namespace Go.Proofs.YtchdkjenhppleaaGreat
set_option linter.unusedSimpArgs false
set_option linter.unusedVariables false
set_option linter.unusedSectionVars false
set_option maxRecDepth 100000
set_option maxHeartbeats 40000000
section
open Go.RowKit Go.Shelf
structure SmR(w:World)(M F T:Array Value)(gF gB:Option Nat)(v:World):Prop where
 x:Below w.heap.size w v
 i:v.heap[w.heap.size+1+1+1]? =some (.cells #[.int .i64 1,.int .i64 1,.int .i64 0,.int .i64 0,.int .i64 5,.int .i64 0,.slice none 0 0,.int .i64 0] 62 (0,0))
 b:v.heap[w.heap.size+1+1+1+1]? =some (.cells #[.slice (some ⟨w.heap.size+1+1+1,0,none⟩) 1 1,.int .i64 3,.int .i64 1,.int .i64 0,.int .i64 0] 31 (0,0))
 j:v.heap[w.heap.size+1+1+1+1+1]? =some (.cells #[.int .i64 1,.int .i64 1,.int .i64 0,.int .i64 0,.int .i64 5,.int .i64 0,.slice none 0 0,.int .i64 0,.int .i64 15,.int .i64 0,.int .i64 1,.int .i64 0,.int .i64 0,.int .i64 0,.slice none 0 0,.int .i64 0] 62 (0,0))
 c:v.heap[w.heap.size+1+1+1+1+1+1]? =some (.cells #[.slice (some ⟨w.heap.size+1+1+1+1+1,0,none⟩) 2 2,.int .i64 3,.int .i64 0,.int .i64 0,.int .i64 0] 31 (0,0))
 m:v.heap[w.heap.size]? =some (.cells M 24 (0,0))
 f:v.heap[w.heap.size+1]? =some (.cells F 47 (0,0))
 t:v.heap[w.heap.size+1+1]? =some (.cells T 49 (0,0))
 gf:∀g,gF=some g->w.heap.size+1+1+1<=g/\v.heap[g]? =some (.cells #[.slice (some ⟨w.heap.size+1+1+1,0,none⟩) 1 1,.int .i64 3,.int .i64 1,.int .i64 0,.int .i64 0] 31 (0,0))
 gb:∀g,gB=some g->w.heap.size+1+1+1<=g/\v.heap[g]? =some (.cells #[.slice (some ⟨w.heap.size+1+1+1+1+1,0,none⟩) 2 2,.int .i64 3,.int .i64 0,.int .i64 0,.int .i64 0] 31 (0,0))
structure SmW(w:World) where
 val:World
 ok:∃M F T gF gB,SmR w M F T gF gB val
section
variable {w v:World} {M F T:Array Value} {gF gB:Option Nat}
def SmR.s(h:SmR w M F T gF gB v):SmW w:=⟨v,_,_,_,_,_,h⟩
theorem SmR.up(h:SmR w M F T gF gB v)(o:Obj):SmR w M F T gF gB (v.alloc o):=
 have k {g:Nat} {x:Obj} (e:v.heap[g]? =some x):(v.alloc o).heap[g]? =some x:=eB (eC v o) e
 ⟨eA h.x (eC _ _),k h.i,k h.b,k h.j,k h.c,k h.m,k h.f,k h.t,λg e=>⟨(h.gf g e).1,k (h.gf g e).2⟩,λg e=>⟨(h.gb g e).1,k (h.gb g e).2⟩⟩
theorem SmR.drew(h:SmR w M F T gF gB v):SmR w M F T gF gB v.drew:=⟨eS h.x 1,h.i,h.b,h.j,h.c,h.m,h.f,h.t,h.gf,h.gb⟩
theorem SmR.hi(h:SmR w M F T gF gB v):w.heap.size+1+1+1<=v.heap.size:=by
 have:=(am.1 h.i).1
 omega
theorem SmR.alF(h:SmR w M F T none gB v):SmR w M F T (some v.heap.size) gB (v.alloc (.cells #[.slice (some ⟨w.heap.size+1+1+1,0,none⟩) 1 1,.int .i64 3,.int .i64 1,.int .i64 0,.int .i64 0] 31)):=
 {h.up _ with gf:=λg e=>by cases e;exact⟨h.hi,ai _ _⟩}
theorem SmR.alB(h:SmR w M F T gF none v):SmR w M F T gF (some v.heap.size) (v.alloc (.cells #[.slice (some ⟨w.heap.size+1+1+1+1+1,0,none⟩) 2 2,.int .i64 3,.int .i64 0,.int .i64 0,.int .i64 0] 31)):=
 {h.up _ with gb:=λg e=>by cases e;exact⟨h.hi,ai _ _⟩}
theorem SmR.setM(h:SmR w M F T gF gB v)(M':Array Value):SmR w M' F T gF gB (v.setRow (w.heap.size) M'):=
 have k {g:Nat} {x:Obj} (e:v.heap[g]? =some x) (n:g≠w.heap.size):(v.setRow w.heap.size M').heap[g]? =some x:=(aY v _ g M' n).trans e
 ⟨aA h.x (aw _) _,k h.i (by omega),k h.b (by omega),k h.j (by omega),k h.c (by omega),aG _ _ _ _ _ _ h.m,k h.f (by omega),k h.t (by omega),λg e=>⟨(h.gf g e).1,k (h.gf g e).2 (by have:=(h.gf g e).1;omega)⟩,λg e=>⟨(h.gb g e).1,k (h.gb g e).2 (by have:=(h.gb g e).1;omega)⟩⟩
theorem SmR.setX(h:SmR w M F T gF gB v)(F':Array Value):SmR w M F' T gF gB (v.setRow (w.heap.size+1) F'):=
 have k {g:Nat} {x:Obj} (e:v.heap[g]? =some x) (n:g≠w.heap.size+1):(v.setRow (w.heap.size+1) F').heap[g]? =some x:=(aY v _ g F' n).trans e
 ⟨aA h.x (by omega) _,k h.i (by omega),k h.b (by omega),k h.j (by omega),k h.c (by omega),k h.m (by omega),aG _ _ _ _ _ _ h.f,k h.t (by omega),λg e=>⟨(h.gf g e).1,k (h.gf g e).2 (by have:=(h.gf g e).1;omega)⟩,λg e=>⟨(h.gb g e).1,k (h.gb g e).2 (by have:=(h.gb g e).1;omega)⟩⟩
theorem SmR.setT(h:SmR w M F T gF gB v)(T':Array Value):SmR w M F T' gF gB (v.setRow (w.heap.size+1+1) T'):=
 have k {g:Nat} {x:Obj} (e:v.heap[g]? =some x) (n:g≠w.heap.size+1+1):(v.setRow (w.heap.size+1+1) T').heap[g]? =some x:=(aY v _ g T' n).trans e
 ⟨aA h.x (by omega) _,k h.i (by omega),k h.b (by omega),k h.j (by omega),k h.c (by omega),k h.m (by omega),k h.f (by omega),aG _ _ _ _ _ _ h.t,λg e=>⟨(h.gf g e).1,k (h.gf g e).2 (by have:=(h.gf g e).1;omega)⟩,λg e=>⟨(h.gb g e).1,k (h.gb g e).2 (by have:=(h.gb g e).1;omega)⟩⟩
end
theorem f8(w:World):∃W,W=((((((w.alloc (.cells #[.int .i64 0,.slice none 0 0,.int .i64 0,.slice none 0 0] 24)).alloc (.cells #[.slice none 0 0,.slice none 0 0] 47)).alloc (.cells #[.int .i64 0,.slice none 0 0] 49)).alloc (.cells #[.int .i64 1,.int .i64 1,.int .i64 0,.int .i64 0,.int .i64 5,.int .i64 0,.slice none 0 0,.int .i64 0] 62)).alloc (.cells #[.slice (some ⟨w.heap.size+1+1+1,0,none⟩) 1 1,.int .i64 3,.int .i64 1,.int .i64 0,.int .i64 0] 31)).alloc (.cells #[.int .i64 1,.int .i64 1,.int .i64 0,.int .i64 0,.int .i64 5,.int .i64 0,.slice none 0 0,.int .i64 0,.int .i64 15,.int .i64 0,.int .i64 1,.int .i64 0,.int .i64 0,.int .i64 0,.slice none 0 0,.int .i64 0] 62)).alloc (.cells #[.slice (some ⟨w.heap.size+1+1+1+1+1,0,none⟩) 2 2,.int .i64 3,.int .i64 0,.int .i64 0,.int .i64 0] 31)/\SmR w #[.int .i64 0,.slice none 0 0,.int .i64 0,.slice none 0 0] #[.slice none 0 0,.slice none 0 0] #[.int .i64 0,.slice none 0 0] none none W:=⟨_,rfl,eA (eA (eA (eA (eA (eA (eC _ _) (eC _ _)) (eC _ _)) (eC _ _)) (eC _ _)) (eC _ _)) (eC _ _),eB (eA (eA (eC _ _) (eC _ _)) (eC _ _)) (fM _ _ _ (by simp)),eB (eA (eC _ _) (eC _ _)) (fM _ _ _ (by simp)),eB (eC _ _) (fM _ _ _ (by simp)),fM _ _ _ (by simp),eB (eA (eA (eA (eA (eA (eC _ _) (eC _ _)) (eC _ _)) (eC _ _)) (eC _ _)) (eC _ _)) (ai _ _),eB (eA (eA (eA (eA (eC _ _) (eC _ _)) (eC _ _)) (eC _ _)) (eC _ _)) (fM _ _ _ (by simp)),eB (eA (eA (eA (eC _ _) (eC _ _)) (eC _ _)) (eC _ _)) (fM _ _ _ (by simp)),λ_ e=>(by cases e),λ_ e=>(by cases e)⟩
theorem WG(w:World):Calls Tryz.prog 9 #[] w λe w'=>∃gI gF gT gB,e=.returned (.tuple #[MN,kF none 0 0 (some ⟨gF,0,none⟩) 1 1,QZ gB])/\qG w' gI gF/\pA w' gT gB 2/\w.heap.size<=gB/\Below w.heap.size w w':=by
 go_enter Tryz.func9,Tryz.ntmps9
 go_wp2
 obtain⟨W,hW,h⟩:=f8 w
 rw[<-hW]
 clear hW
 go_cut [] (λwx=>∃gF gB,SmR w #[.int .i64 2,.slice none 0 0,.int .i64 0,.slice none 0 0] #[.slice none 0 0,.slice (some ⟨gF,0,none⟩) 1 1] #[.int .i64 0,.slice (some ⟨gB,0,none⟩) 1 1] (some gF) (some gB) wx)
 case rest=>
  obtain⟨gF,gB,h2⟩:=hcut;obtain⟨m0,m1,m2,m3⟩:=wD h2.m rfl;obtain⟨f0,f1⟩:=qR h2.f rfl;obtain⟨t0,t1⟩:=qR h2.t rfl;have H2:=ac h2;clear h2 h;go_wp2;exact aD (v:=.tuple #[MN,kF none 0 0 (some ⟨gF,0,none⟩) 1 1,QZ gB]) (by simp[results,Tryz.results9,go_sem,m0,m1,m2,m3,f0,f1,t0,t1]) rfl ⟨_,gF,_,gB,rfl,⟨H2.out.i,(H2.out.gf _ rfl).2⟩,⟨H2.out.j,(H2.out.gb _ rfl).2⟩,by have:=(H2.out.gb _ rfl).1;omega,H2.out.x⟩
 have c0:=λn:SmW w=>(by obtain⟨_,_,_,_,_,k⟩:=n.ok;exact nN k.b rfl:n.val.cell? ⟨w.heap.size+1+1+1+1,0,none⟩=_/\n.val.cell? ⟨w.heap.size+1+1+1+1,1,none⟩=_/\n.val.cell? ⟨w.heap.size+1+1+1+1,2,none⟩=_/\n.val.cell? ⟨w.heap.size+1+1+1+1,3,none⟩=_/\n.val.cell? ⟨w.heap.size+1+1+1+1,4,none⟩=_)
 have a0:=λn=>(c0 n).1
 have a1:=λn=>(c0 n).2.1
 have a2:=λn=>(c0 n).2.2.1
 have a3:=λn=>(c0 n).2.2.2.1
 have a4:=λn=>(c0 n).2.2.2.2
 have c1:=λn:SmW w=>(by obtain⟨_,_,_,_,_,k⟩:=n.ok;exact nN k.c rfl:n.val.cell? ⟨w.heap.size+1+1+1+1+1+1,0,none⟩=_/\n.val.cell? ⟨w.heap.size+1+1+1+1+1+1,1,none⟩=_/\n.val.cell? ⟨w.heap.size+1+1+1+1+1+1,2,none⟩=_/\n.val.cell? ⟨w.heap.size+1+1+1+1+1+1,3,none⟩=_/\n.val.cell? ⟨w.heap.size+1+1+1+1+1+1,4,none⟩=_)
 have b0:=λn=>(c1 n).1
 have b1:=λn=>(c1 n).2.1
 have b2:=λn=>(c1 n).2.2.1
 have b3:=λn=>(c1 n).2.2.2.1
 have b4:=λn=>(c1 n).2.2.2.2
 clear c0 c1
 have hne:Nonempty (SmW w):=⟨⟨W,_,_,_,_,_,h⟩⟩
 refine iZ (λw'=>∃n:SmW w,w'=n.val) (by kernel_rfl) ?_
 have h0:=h.drew
 clear h
 generalize W.drew=v0 at*
 refine eK 0 2 (by kernel_rfl) ⟨⟨_,_,_,_,_,_,h0⟩,rfl⟩ ?_
 simp only[ak,aq,aj,ap]
 repeat (go_big_quiet_step (fail))
 refine ar ?_
 refine eK 4 1 (by kernel_rfl) ⟨⟨_,_,_,_,_,_,h0⟩,rfl⟩ ?_
 simp only[ak,aq,aj,ap]
 repeat (go_big_quiet_step (fail))
 refine ar ?_
 refine KM 2 5 7 (by kernel_rfl) ?_ ?_ ?_
 .refine eE rfl rfl ?_;go_simp;have h1:=h0.alF;refine⟨Or.inr ⟨h1.s,rfl⟩,?_⟩;generalize v0.alloc (.cells #[.slice (some ⟨w.heap.size+1+1+1,0,none⟩) 1 1,.int .i64 3,.int .i64 1,.int .i64 0,.int .i64 0] 31)=v1 at *;generalize v0.heap.size=gF at*
  try simp only[Act.put,ae,ah,ag]
  refine eK 3 1 (by kernel_rfl) ⟨⟨_,_,_,_,_,_,h1⟩,rfl⟩ ?_;simp only[ak,aq,aj,ap]
  repeat (go_big_quiet_step (fail))
  refine ar ?_;refine lU 5 7 (by kernel_rfl) ?_ ?_
  .refine eE rfl rfl ?_;go_simp;have h2:=h1.alB;refine⟨Or.inr ⟨h2.s,rfl⟩,?_⟩;generalize v1.alloc (.cells #[.slice (some ⟨w.heap.size+1+1+1+1+1,0,none⟩) 2 2,.int .i64 3,.int .i64 0,.int .i64 0,.int .i64 0] 31)=v2 at *;generalize v1.heap.size=gB at*
   try simp only[Act.put,ae,ah,ag]
   refine eK 6 1 (by kernel_rfl) ⟨⟨_,_,_,_,_,_,h2⟩,rfl⟩ ?_;simp only[ak,aq,aj,ap]
   repeat (go_big_quiet_step (fail))
   refine ar ?_;refine eO 7 (by kernel_rfl) ?_;refine eE rfl rfl ?_;refine aE 24 _ _ rfl (w.heap.size) #[.int .i64 2,.slice none 0 0,.int .i64 0,.slice none 0 0] rfl rfl 24 _ h2.m rfl rfl (by kernel_rfl) ?_;have h3:=h2.setM #[.int .i64 2,.slice none 0 0,.int .i64 0,.slice none 0 0];refine⟨Or.inr ⟨h3.s,rfl⟩,?_⟩;generalize v2.setRow (w.heap.size) #[.int .i64 2,.slice none 0 0,.int .i64 0,.slice none 0 0]=v3 at*
   try simp only[Act.put,ae,ah,ag]
   refine eO 8 (by kernel_rfl) ?_;refine eE rfl rfl ?_;refine aE 47 _ _ rfl (w.heap.size+1) #[.slice none 0 0,.slice (some ⟨gF,0,none⟩) 1 1] rfl rfl 47 _ h3.f rfl rfl (by kernel_rfl) ?_;have h4:=h3.setX #[.slice none 0 0,.slice (some ⟨gF,0,none⟩) 1 1];refine⟨Or.inr ⟨h4.s,rfl⟩,?_⟩;generalize v3.setRow (w.heap.size+1) #[.slice none 0 0,.slice (some ⟨gF,0,none⟩) 1 1]=v4 at*
   try simp only[Act.put,ae,ah,ag]
   refine eO 9 (by kernel_rfl) ?_;refine eE rfl rfl ?_;refine aE 49 _ _ rfl (w.heap.size+1+1) #[.int .i64 0,.slice (some ⟨gB,0,none⟩) 1 1] rfl rfl 49 _ h4.t rfl rfl (by kernel_rfl) ?_;have h5:=h4.setT #[.int .i64 0,.slice (some ⟨gB,0,none⟩) 1 1];refine⟨Or.inr ⟨h5.s,rfl⟩,?_⟩;generalize v4.setRow (w.heap.size+1+1) #[.int .i64 0,.slice (some ⟨gB,0,none⟩) 1 1]=v5 at*
   try simp only[Act.put,ae,ah,ag]
   refine fJ (by kernel_rfl) ?_
   go_wp2_with fail
   go_meet
   exact⟨gF,gB,h5⟩
  .refine eE rfl rfl ?_;refine aE 24 _ _ rfl (w.heap.size) #[.int .i64 2,.slice none 0 0,.int .i64 0,.slice none 0 0] rfl rfl 24 _ h1.m rfl rfl (by kernel_rfl) ?_;have h2:=h1.setM #[.int .i64 2,.slice none 0 0,.int .i64 0,.slice none 0 0];refine⟨Or.inr ⟨h2.s,rfl⟩,?_⟩;generalize v1.setRow (w.heap.size) #[.int .i64 2,.slice none 0 0,.int .i64 0,.slice none 0 0]=v2 at*
   try simp only[Act.put,ae,ah,ag]
   refine lU 5 8 (by kernel_rfl) ?_ ?_
   .refine eE rfl rfl ?_;go_simp;have h3:=h2.alB;refine⟨Or.inr ⟨h3.s,rfl⟩,?_⟩;generalize v2.alloc (.cells #[.slice (some ⟨w.heap.size+1+1+1+1+1,0,none⟩) 2 2,.int .i64 3,.int .i64 0,.int .i64 0,.int .i64 0] 31)=v3 at *;generalize v2.heap.size=gB at*
    try simp only[Act.put,ae,ah,ag]
    refine eK 6 1 (by kernel_rfl) ⟨⟨_,_,_,_,_,_,h3⟩,rfl⟩ ?_;simp only[ak,aq,aj,ap]
    repeat (go_big_quiet_step (fail))
    refine ar ?_;refine eO 8 (by kernel_rfl) ?_;refine eE rfl rfl ?_;refine aE 47 _ _ rfl (w.heap.size+1) #[.slice none 0 0,.slice (some ⟨gF,0,none⟩) 1 1] rfl rfl 47 _ h3.f rfl rfl (by kernel_rfl) ?_;have h4:=h3.setX #[.slice none 0 0,.slice (some ⟨gF,0,none⟩) 1 1];refine⟨Or.inr ⟨h4.s,rfl⟩,?_⟩;generalize v3.setRow (w.heap.size+1) #[.slice none 0 0,.slice (some ⟨gF,0,none⟩) 1 1]=v4 at*
    try simp only[Act.put,ae,ah,ag]
    refine eO 9 (by kernel_rfl) ?_;refine eE rfl rfl ?_;refine aE 49 _ _ rfl (w.heap.size+1+1) #[.int .i64 0,.slice (some ⟨gB,0,none⟩) 1 1] rfl rfl 49 _ h4.t rfl rfl (by kernel_rfl) ?_;have h5:=h4.setT #[.int .i64 0,.slice (some ⟨gB,0,none⟩) 1 1];refine⟨Or.inr ⟨h5.s,rfl⟩,?_⟩;generalize v4.setRow (w.heap.size+1+1) #[.int .i64 0,.slice (some ⟨gB,0,none⟩) 1 1]=v5 at*
    try simp only[Act.put,ae,ah,ag]
    refine fJ (by kernel_rfl) ?_
    go_wp2_with fail
    go_meet
    exact⟨gF,gB,h5⟩
   .refine eE rfl rfl ?_;refine aE 47 _ _ rfl (w.heap.size+1) #[.slice none 0 0,.slice (some ⟨gF,0,none⟩) 1 1] rfl rfl 47 _ h2.f rfl rfl (by kernel_rfl) ?_;have h3:=h2.setX #[.slice none 0 0,.slice (some ⟨gF,0,none⟩) 1 1];refine⟨Or.inr ⟨h3.s,rfl⟩,?_⟩;generalize v2.setRow (w.heap.size+1) #[.slice none 0 0,.slice (some ⟨gF,0,none⟩) 1 1]=v3 at*
    try simp only[Act.put,ae,ah,ag]
    refine eO 5 (by kernel_rfl) ?_;refine eE rfl rfl ?_;go_simp;have h4:=h3.alB;refine⟨Or.inr ⟨h4.s,rfl⟩,?_⟩;generalize v3.alloc (.cells #[.slice (some ⟨w.heap.size+1+1+1+1+1,0,none⟩) 2 2,.int .i64 3,.int .i64 0,.int .i64 0,.int .i64 0] 31)=v4 at *;generalize v3.heap.size=gB at*
    try simp only[Act.put,ae,ah,ag]
    refine eK 6 1 (by kernel_rfl) ⟨⟨_,_,_,_,_,_,h4⟩,rfl⟩ ?_;simp only[ak,aq,aj,ap]
    repeat (go_big_quiet_step (fail))
    refine ar ?_;refine eO 9 (by kernel_rfl) ?_;refine eE rfl rfl ?_;refine aE 49 _ _ rfl (w.heap.size+1+1) #[.int .i64 0,.slice (some ⟨gB,0,none⟩) 1 1] rfl rfl 49 _ h4.t rfl rfl (by kernel_rfl) ?_;have h5:=h4.setT #[.int .i64 0,.slice (some ⟨gB,0,none⟩) 1 1];refine⟨Or.inr ⟨h5.s,rfl⟩,?_⟩;generalize v4.setRow (w.heap.size+1+1) #[.int .i64 0,.slice (some ⟨gB,0,none⟩) 1 1]=v5 at*
    try simp only[Act.put,ae,ah,ag]
    refine fJ (by kernel_rfl) ?_
    go_wp2_with fail
    go_meet
    exact⟨gF,gB,h5⟩
 .refine eE rfl rfl ?_;go_simp;have h1:=h0.alB;refine⟨Or.inr ⟨h1.s,rfl⟩,?_⟩;generalize v0.alloc (.cells #[.slice (some ⟨w.heap.size+1+1+1+1+1,0,none⟩) 2 2,.int .i64 3,.int .i64 0,.int .i64 0,.int .i64 0] 31)=v1 at *;generalize v0.heap.size=gB at*
  try simp only[Act.put,ae,ah,ag]
  refine eK 6 1 (by kernel_rfl) ⟨⟨_,_,_,_,_,_,h1⟩,rfl⟩ ?_;simp only[ak,aq,aj,ap]
  repeat (go_big_quiet_step (fail))
  refine ar ?_;refine lU 2 7 (by kernel_rfl) ?_ ?_
  .refine eE rfl rfl ?_;go_simp;have h2:=h1.alF;refine⟨Or.inr ⟨h2.s,rfl⟩,?_⟩;generalize v1.alloc (.cells #[.slice (some ⟨w.heap.size+1+1+1,0,none⟩) 1 1,.int .i64 3,.int .i64 1,.int .i64 0,.int .i64 0] 31)=v2 at *;generalize v1.heap.size=gF at*
   try simp only[Act.put,ae,ah,ag]
   refine eK 3 1 (by kernel_rfl) ⟨⟨_,_,_,_,_,_,h2⟩,rfl⟩ ?_;simp only[ak,aq,aj,ap]
   repeat (go_big_quiet_step (fail))
   refine ar ?_;refine eO 7 (by kernel_rfl) ?_;refine eE rfl rfl ?_;refine aE 24 _ _ rfl (w.heap.size) #[.int .i64 2,.slice none 0 0,.int .i64 0,.slice none 0 0] rfl rfl 24 _ h2.m rfl rfl (by kernel_rfl) ?_;have h3:=h2.setM #[.int .i64 2,.slice none 0 0,.int .i64 0,.slice none 0 0];refine⟨Or.inr ⟨h3.s,rfl⟩,?_⟩;generalize v2.setRow (w.heap.size) #[.int .i64 2,.slice none 0 0,.int .i64 0,.slice none 0 0]=v3 at*
   try simp only[Act.put,ae,ah,ag]
   refine eO 8 (by kernel_rfl) ?_;refine eE rfl rfl ?_;refine aE 47 _ _ rfl (w.heap.size+1) #[.slice none 0 0,.slice (some ⟨gF,0,none⟩) 1 1] rfl rfl 47 _ h3.f rfl rfl (by kernel_rfl) ?_;have h4:=h3.setX #[.slice none 0 0,.slice (some ⟨gF,0,none⟩) 1 1];refine⟨Or.inr ⟨h4.s,rfl⟩,?_⟩;generalize v3.setRow (w.heap.size+1) #[.slice none 0 0,.slice (some ⟨gF,0,none⟩) 1 1]=v4 at*
   try simp only[Act.put,ae,ah,ag]
   refine eO 9 (by kernel_rfl) ?_;refine eE rfl rfl ?_;refine aE 49 _ _ rfl (w.heap.size+1+1) #[.int .i64 0,.slice (some ⟨gB,0,none⟩) 1 1] rfl rfl 49 _ h4.t rfl rfl (by kernel_rfl) ?_;have h5:=h4.setT #[.int .i64 0,.slice (some ⟨gB,0,none⟩) 1 1];refine⟨Or.inr ⟨h5.s,rfl⟩,?_⟩;generalize v4.setRow (w.heap.size+1+1) #[.int .i64 0,.slice (some ⟨gB,0,none⟩) 1 1]=v5 at*
   try simp only[Act.put,ae,ah,ag]
   refine fJ (by kernel_rfl) ?_
   go_wp2_with fail
   go_meet
   exact⟨gF,gB,h5⟩
  .refine eE rfl rfl ?_;refine aE 24 _ _ rfl (w.heap.size) #[.int .i64 2,.slice none 0 0,.int .i64 0,.slice none 0 0] rfl rfl 24 _ h1.m rfl rfl (by kernel_rfl) ?_;have h2:=h1.setM #[.int .i64 2,.slice none 0 0,.int .i64 0,.slice none 0 0];refine⟨Or.inr ⟨h2.s,rfl⟩,?_⟩;generalize v1.setRow (w.heap.size) #[.int .i64 2,.slice none 0 0,.int .i64 0,.slice none 0 0]=v2 at*
   try simp only[Act.put,ae,ah,ag]
   refine eO 2 (by kernel_rfl) ?_;refine eE rfl rfl ?_;go_simp;have h3:=h2.alF;refine⟨Or.inr ⟨h3.s,rfl⟩,?_⟩;generalize v2.alloc (.cells #[.slice (some ⟨w.heap.size+1+1+1,0,none⟩) 1 1,.int .i64 3,.int .i64 1,.int .i64 0,.int .i64 0] 31)=v3 at *;generalize v2.heap.size=gF at*
   try simp only[Act.put,ae,ah,ag]
   refine eK 3 1 (by kernel_rfl) ⟨⟨_,_,_,_,_,_,h3⟩,rfl⟩ ?_;simp only[ak,aq,aj,ap]
   repeat (go_big_quiet_step (fail))
   refine ar ?_;refine eO 8 (by kernel_rfl) ?_;refine eE rfl rfl ?_;refine aE 47 _ _ rfl (w.heap.size+1) #[.slice none 0 0,.slice (some ⟨gF,0,none⟩) 1 1] rfl rfl 47 _ h3.f rfl rfl (by kernel_rfl) ?_;have h4:=h3.setX #[.slice none 0 0,.slice (some ⟨gF,0,none⟩) 1 1];refine⟨Or.inr ⟨h4.s,rfl⟩,?_⟩;generalize v3.setRow (w.heap.size+1) #[.slice none 0 0,.slice (some ⟨gF,0,none⟩) 1 1]=v4 at*
   try simp only[Act.put,ae,ah,ag]
   refine eO 9 (by kernel_rfl) ?_;refine eE rfl rfl ?_;refine aE 49 _ _ rfl (w.heap.size+1+1) #[.int .i64 0,.slice (some ⟨gB,0,none⟩) 1 1] rfl rfl 49 _ h4.t rfl rfl (by kernel_rfl) ?_;have h5:=h4.setT #[.int .i64 0,.slice (some ⟨gB,0,none⟩) 1 1];refine⟨Or.inr ⟨h5.s,rfl⟩,?_⟩;generalize v4.setRow (w.heap.size+1+1) #[.int .i64 0,.slice (some ⟨gB,0,none⟩) 1 1]=v5 at*
   try simp only[Act.put,ae,ah,ag]
   refine fJ (by kernel_rfl) ?_
   go_wp2_with fail
   go_meet
   exact⟨gF,gB,h5⟩
 .refine eE rfl rfl ?_;refine aE 24 _ _ rfl (w.heap.size) #[.int .i64 2,.slice none 0 0,.int .i64 0,.slice none 0 0] rfl rfl 24 _ h0.m rfl rfl (by kernel_rfl) ?_;have h1:=h0.setM #[.int .i64 2,.slice none 0 0,.int .i64 0,.slice none 0 0];refine⟨Or.inr ⟨h1.s,rfl⟩,?_⟩;generalize v0.setRow (w.heap.size) #[.int .i64 2,.slice none 0 0,.int .i64 0,.slice none 0 0]=v1 at*
  try simp only[Act.put,ae,ah,ag]
  refine lU 2 5 (by kernel_rfl) ?_ ?_
  .refine eE rfl rfl ?_;go_simp;have h2:=h1.alF;refine⟨Or.inr ⟨h2.s,rfl⟩,?_⟩;generalize v1.alloc (.cells #[.slice (some ⟨w.heap.size+1+1+1,0,none⟩) 1 1,.int .i64 3,.int .i64 1,.int .i64 0,.int .i64 0] 31)=v2 at *;generalize v1.heap.size=gF at*
   try simp only[Act.put,ae,ah,ag]
   refine eK 3 1 (by kernel_rfl) ⟨⟨_,_,_,_,_,_,h2⟩,rfl⟩ ?_;simp only[ak,aq,aj,ap]
   repeat (go_big_quiet_step (fail))
   refine ar ?_;refine lU 5 8 (by kernel_rfl) ?_ ?_
   .refine eE rfl rfl ?_;go_simp;have h3:=h2.alB;refine⟨Or.inr ⟨h3.s,rfl⟩,?_⟩;generalize v2.alloc (.cells #[.slice (some ⟨w.heap.size+1+1+1+1+1,0,none⟩) 2 2,.int .i64 3,.int .i64 0,.int .i64 0,.int .i64 0] 31)=v3 at *;generalize v2.heap.size=gB at*
    try simp only[Act.put,ae,ah,ag]
    refine eK 6 1 (by kernel_rfl) ⟨⟨_,_,_,_,_,_,h3⟩,rfl⟩ ?_;simp only[ak,aq,aj,ap]
    repeat (go_big_quiet_step (fail))
    refine ar ?_;refine eO 8 (by kernel_rfl) ?_;refine eE rfl rfl ?_;refine aE 47 _ _ rfl (w.heap.size+1) #[.slice none 0 0,.slice (some ⟨gF,0,none⟩) 1 1] rfl rfl 47 _ h3.f rfl rfl (by kernel_rfl) ?_;have h4:=h3.setX #[.slice none 0 0,.slice (some ⟨gF,0,none⟩) 1 1];refine⟨Or.inr ⟨h4.s,rfl⟩,?_⟩;generalize v3.setRow (w.heap.size+1) #[.slice none 0 0,.slice (some ⟨gF,0,none⟩) 1 1]=v4 at*
    try simp only[Act.put,ae,ah,ag]
    refine eO 9 (by kernel_rfl) ?_;refine eE rfl rfl ?_;refine aE 49 _ _ rfl (w.heap.size+1+1) #[.int .i64 0,.slice (some ⟨gB,0,none⟩) 1 1] rfl rfl 49 _ h4.t rfl rfl (by kernel_rfl) ?_;have h5:=h4.setT #[.int .i64 0,.slice (some ⟨gB,0,none⟩) 1 1];refine⟨Or.inr ⟨h5.s,rfl⟩,?_⟩;generalize v4.setRow (w.heap.size+1+1) #[.int .i64 0,.slice (some ⟨gB,0,none⟩) 1 1]=v5 at*
    try simp only[Act.put,ae,ah,ag]
    refine fJ (by kernel_rfl) ?_
    go_wp2_with fail
    go_meet
    exact⟨gF,gB,h5⟩
   .refine eE rfl rfl ?_;refine aE 47 _ _ rfl (w.heap.size+1) #[.slice none 0 0,.slice (some ⟨gF,0,none⟩) 1 1] rfl rfl 47 _ h2.f rfl rfl (by kernel_rfl) ?_;have h3:=h2.setX #[.slice none 0 0,.slice (some ⟨gF,0,none⟩) 1 1];refine⟨Or.inr ⟨h3.s,rfl⟩,?_⟩;generalize v2.setRow (w.heap.size+1) #[.slice none 0 0,.slice (some ⟨gF,0,none⟩) 1 1]=v3 at*
    try simp only[Act.put,ae,ah,ag]
    refine eO 5 (by kernel_rfl) ?_;refine eE rfl rfl ?_;go_simp;have h4:=h3.alB;refine⟨Or.inr ⟨h4.s,rfl⟩,?_⟩;generalize v3.alloc (.cells #[.slice (some ⟨w.heap.size+1+1+1+1+1,0,none⟩) 2 2,.int .i64 3,.int .i64 0,.int .i64 0,.int .i64 0] 31)=v4 at *;generalize v3.heap.size=gB at*
    try simp only[Act.put,ae,ah,ag]
    refine eK 6 1 (by kernel_rfl) ⟨⟨_,_,_,_,_,_,h4⟩,rfl⟩ ?_;simp only[ak,aq,aj,ap]
    repeat (go_big_quiet_step (fail))
    refine ar ?_;refine eO 9 (by kernel_rfl) ?_;refine eE rfl rfl ?_;refine aE 49 _ _ rfl (w.heap.size+1+1) #[.int .i64 0,.slice (some ⟨gB,0,none⟩) 1 1] rfl rfl 49 _ h4.t rfl rfl (by kernel_rfl) ?_;have h5:=h4.setT #[.int .i64 0,.slice (some ⟨gB,0,none⟩) 1 1];refine⟨Or.inr ⟨h5.s,rfl⟩,?_⟩;generalize v4.setRow (w.heap.size+1+1) #[.int .i64 0,.slice (some ⟨gB,0,none⟩) 1 1]=v5 at*
    try simp only[Act.put,ae,ah,ag]
    refine fJ (by kernel_rfl) ?_
    go_wp2_with fail
    go_meet
    exact⟨gF,gB,h5⟩
  .refine eE rfl rfl ?_;go_simp;have h2:=h1.alB;refine⟨Or.inr ⟨h2.s,rfl⟩,?_⟩;generalize v1.alloc (.cells #[.slice (some ⟨w.heap.size+1+1+1+1+1,0,none⟩) 2 2,.int .i64 3,.int .i64 0,.int .i64 0,.int .i64 0] 31)=v2 at *;generalize v1.heap.size=gB at*
   try simp only[Act.put,ae,ah,ag]
   refine eK 6 1 (by kernel_rfl) ⟨⟨_,_,_,_,_,_,h2⟩,rfl⟩ ?_;simp only[ak,aq,aj,ap]
   repeat (go_big_quiet_step (fail))
   refine ar ?_;refine eO 2 (by kernel_rfl) ?_;refine eE rfl rfl ?_;go_simp;have h3:=h2.alF;refine⟨Or.inr ⟨h3.s,rfl⟩,?_⟩;generalize v2.alloc (.cells #[.slice (some ⟨w.heap.size+1+1+1,0,none⟩) 1 1,.int .i64 3,.int .i64 1,.int .i64 0,.int .i64 0] 31)=v3 at *;generalize v2.heap.size=gF at*
   try simp only[Act.put,ae,ah,ag]
   refine eK 3 1 (by kernel_rfl) ⟨⟨_,_,_,_,_,_,h3⟩,rfl⟩ ?_;simp only[ak,aq,aj,ap]
   repeat (go_big_quiet_step (fail))
   refine ar ?_;refine eO 8 (by kernel_rfl) ?_;refine eE rfl rfl ?_;refine aE 47 _ _ rfl (w.heap.size+1) #[.slice none 0 0,.slice (some ⟨gF,0,none⟩) 1 1] rfl rfl 47 _ h3.f rfl rfl (by kernel_rfl) ?_;have h4:=h3.setX #[.slice none 0 0,.slice (some ⟨gF,0,none⟩) 1 1];refine⟨Or.inr ⟨h4.s,rfl⟩,?_⟩;generalize v3.setRow (w.heap.size+1) #[.slice none 0 0,.slice (some ⟨gF,0,none⟩) 1 1]=v4 at*
   try simp only[Act.put,ae,ah,ag]
   refine eO 9 (by kernel_rfl) ?_;refine eE rfl rfl ?_;refine aE 49 _ _ rfl (w.heap.size+1+1) #[.int .i64 0,.slice (some ⟨gB,0,none⟩) 1 1] rfl rfl 49 _ h4.t rfl rfl (by kernel_rfl) ?_;have h5:=h4.setT #[.int .i64 0,.slice (some ⟨gB,0,none⟩) 1 1];refine⟨Or.inr ⟨h5.s,rfl⟩,?_⟩;generalize v4.setRow (w.heap.size+1+1) #[.int .i64 0,.slice (some ⟨gB,0,none⟩) 1 1]=v5 at*
   try simp only[Act.put,ae,ah,ag]
   refine fJ (by kernel_rfl) ?_
   go_wp2_with fail
   go_meet
   exact⟨gF,gB,h5⟩
end

section
open Go.RowKit Go.Shelf
theorem KQ(gI gF gT gB gC:Nat)(w:World)(h1:qG w gI gF)(h2:pA w gT gB 2)(h3:nV w gC):
  Calls Tryz.prog 10 #[MN,kF none 0 0 (some ⟨gF,0,none⟩) 1 1,QZ gB,UJ gC] w λe w'=>e=.returned (flV 0 (-1) (-1))/\Below w.heap.size w w':=ER gI gF gT gB gC 2 w (.inr rfl) h1 h2 h3
theorem KR(gI gF gT gB gC:Nat)(w:World)(h1:qG w gI gF)(h2:pA w gT gB 1)(h3:nV w gC):
  Calls Tryz.prog 10 #[MN,kF none 0 0 (some ⟨gF,0,none⟩) 1 1,QZ gB,UJ gC] w λe w'=>e=.returned (flV 14 0 0)/\Below w.heap.size w w':=ER gI gF gT gB gC 1 w (.inl rfl) h1 h2 h3
def AwB(P gI gF gT gB nt:Nat)(W:World):Prop:=(W.heap[P]? =some (iK exM none 0 0 none 0 0)/\W.heap[P+1]? =some (kq gF)/\W.heap[P+1+1]? =some (RA gB))/\qG W gI gF/\pA W gT gB nt
section
variable {P gI gF gT gB nt:Nat} {W W':World}
theorem AwB.ext(h:AwB P gI gF gT gB nt W)(hb:Below W.heap.size W W'):AwB P gI gF gT gB nt W':=⟨⟨eB hb h.1.1,eB hb h.1.2.1,eB hb h.1.2.2⟩,h.2.1.ext hb,h.2.2.ext hb⟩
theorem RG{w:World}{g k:Nat}{a b:Array Value}{s t:TypeId}(h1:w.heap[g]? =some (.cells a s (0,0)))(h2:w.heap[k]? =some (.cells b t (0,0)))(h:s≠t\/a≠b):g≠k:=by
 rintro rfl
 rw[h1] at h2
 injection h2 with h2
 injection h2 with e1 e2 _
 exact h.elim (λn=>n e2) (λn=>n e1)
theorem AwB.set(h:AwB P gI gF gT gB 2 W)(hP:gB<P):AwB P gI gF gT gB 1 (W.setCell ⟨gB,0,none⟩ (.slice (some ⟨gT,0,none⟩) 1 2)):=by
 have k {g:Nat} {x:Obj} (e:W.heap[g]? =some x) (n:g≠gB):(W.setCell ⟨gB,0,none⟩ (.slice (some ⟨gT,0,none⟩) 1 2)).heap[g]? =some x:=(dE _ _ _ _ n).trans e
 refine⟨⟨k h.1.1 (by omega),k h.1.2.1 (by omega),k h.1.2.2 (by omega)⟩,⟨k h.2.1.1 (RG h.2.1.1 h.2.2.2 (Or.inl (by decide))),k h.2.1.2 (RG h.2.1.2 h.2.2.2 (Or.inr (by simp)))⟩,k h.2.2.1 (RG h.2.2.1 h.2.2.2 (Or.inl (by decide))),?_⟩
 rw[aO _ _ _ _ _ _ h.2.2.2]
 rfl
end
theorem qb(w:World):(Op.equalIn 10000 53 (flV 0 (-1) (-1)) (flV 0 (-1) (-1))).run Tryz.prog w=.ok true w:=by kernel_rfl
theorem qa(w:World):(Op.equalIn 10000 53 (flV 14 0 0) (flV 14 0 0)).run Tryz.prog w=.ok true w:=by kernel_rfl
theorem UA(w:World):Calls Tryz.prog 4 #[] w λe w'=>e=.returned (.bool true)/\Below w.heap.size w w':=by
 go_enter Tryz.func4,Tryz.ntmps4
 go_wp2_with (
  (go_at_call 9
   refine(WG w).mono ?_;rintro e w1 ⟨gI,gF,gT,gB,rfl,hf,ht,hg,hb⟩;have HF1:=ac hf;have HT1:=ac ht;have HX1:=ac hb;have HL:=ac hg
   clear hf ht hb hg))
 obtain⟨w2,hw2,hg,hb⟩:∃W,W=((w1.alloc (.cells #[.int .i64 2,.slice none 0 0,.int .i64 0,.slice none 0 0] 24)).alloc (.cells #[.slice none 0 0,.slice (some ⟨gF,0,none⟩) 1 1] 47)).alloc (.cells #[.int .i64 0,.slice (some ⟨gB,0,none⟩) 1 1] 49)/\AwB w1.heap.size gI gF gT gB 2 W/\Below w1.heap.size w1 W:=⟨_,rfl,⟨⟨eB (eA (eC _ _) (eC _ _)) (ai _ _),eB (eC _ _) (fM _ _ _ (by simp)),fM _ _ _ (by simp)⟩,HF1.out.ext (eA (eA (eC _ _) (eC _ _)) (eC _ _)),HT1.out.ext (eA (eA (eC _ _) (eC _ _)) (eC _ _))⟩,eA (eA (eC _ _) (eC _ _)) (eC _ _)⟩
 rw[<-hw2]
 clear hw2
 have HBP:Hid (gB<w1.heap.size):=(am.1 HT1.out.2).1
 have HG2:=ac hg
 have HX2:=ac (eA HX1.out hb)
 have HS2:Hid (w1.heap.size+1+1<w2.heap.size):=(am.1 hg.1.2.2).1
 clear hb hg HF1 HT1
 obtain⟨P,hP⟩:∃P,P=w1.heap.size:=⟨_,rfl⟩
 rw[<-hP] at HBP HG2 HS2|-
 clear hP
 obtain⟨m0,m1,m2,m3⟩:=wD HG2.out.1.1 rfl
 obtain⟨f0,f1⟩:=qR HG2.out.1.2.1 rfl
 obtain⟨t0,t1⟩:=qR HG2.out.1.2.2 rfl
 go_cut [4] (λs4 wx=>∃p,s4=.pointer (some ⟨p,0,none⟩)/\w2.heap.size<=p/\wx.heap[p]? =some (.cells #[.int .i64 0,.int .i64 (-1),.int .i64 (-1)] 53 (0,0))/\Below w2.heap.size w2 wx)
 case first=>
  refine iZ (λw'=>∃n:eH w2,w'=n.val) (by kernel_rfl) ?_;have hne:Nonempty (eH w2):=⟨⟨w2,ao _ _⟩⟩
  obtain⟨v0,F0,hv0⟩:∃v0,Below w2.heap.size w2 v0/\w2.drew=v0:=⟨_,eS (ao _ _) 1,rfl⟩
  rw[hv0];clear hv0;have r0:=λn:eH w2=>eH.cell m0 n;have r1:=λn:eH w2=>eH.cell m1 n;have r2:=λn:eH w2=>eH.cell m2 n;have r3:=λn:eH w2=>eH.cell m3 n;have r4:=λn:eH w2=>eH.cell f0 n;have r5:=λn:eH w2=>eH.cell f1 n;have r6:=λn:eH w2=>eH.cell t0 n;have r7:=λn:eH w2=>eH.cell t1 n;clear m0 m1 m2 m3 f0 f1 t0 t1;refine eK 0 3 (by kernel_rfl) ⟨⟨_,F0⟩,rfl⟩ ?_;simp only[ak,aq,aj,ap]
  repeat (go_big_quiet_step (fail))
  refine ar ?_;refine lU 3 5 (by kernel_rfl) ?_ ?_
  .refine eE rfl rfl ?_;go_simp;refine(vO v0).mono ?_;rintro e v1 ⟨gC,rfl,hc0,hc1,-,hb⟩;have F1:=eA F0 hb;have C1:nV v1 gC:=⟨hc0,hc1⟩
   refine⟨Or.inr ⟨⟨_,F1⟩,rfl⟩,?_⟩;clear hb hc0 hc1
   try simp only[Act.put,ae,ah,ag]
   refine lU 4 5 (by kernel_rfl) ?_ ?_
   .refine eE rfl rfl ?_;go_simp;refine(KQ gI gF gT gB gC v1 (HG2.out.ext F1).2.1 (HG2.out.ext F1).2.2 C1).mono ?_;rintro e v2 ⟨rfl,hb⟩;have F2:=eA F1 hb;refine⟨Or.inr ⟨⟨_,F2⟩,rfl⟩,?_⟩;clear hb
    try simp only[Act.put,ae,ah,ag]
    refine eO 5 (by kernel_rfl) ?_;refine eE rfl rfl ?_;go_simp;have L3:=ai v2 (.cells #[.int .i64 0,.int .i64 0,.int .i64 0] 53);have HP:=F2.size;have F3:=eA F2 (eC v2 (.cells #[.int .i64 0,.int .i64 0,.int .i64 0] 53));refine⟨Or.inr ⟨⟨_,F3⟩,rfl⟩,?_⟩;generalize v2.heap.size=p at *;generalize v2.alloc (.cells #[.int .i64 0,.int .i64 0,.int .i64 0] 53)=v3 at*
    try simp only[Act.put,ae,ah,ag]
    refine eO 6 (by kernel_rfl) ?_;refine eE rfl rfl ?_;refine aE 53 _ _ rfl p #[.int .i64 0,.int .i64 (-1),.int .i64 (-1)] rfl rfl 53 _ L3 rfl rfl (by kernel_rfl) ?_;have L4:(v3.setRow p #[.int .i64 0,.int .i64 (-1),.int .i64 (-1)]).heap[p]? =some (.cells #[.int .i64 0,.int .i64 (-1),.int .i64 (-1)] 53 (0,0)):=aG _ _ _ _ _ _ L3;have F4:=aA F3 HP #[.int .i64 0,.int .i64 (-1),.int .i64 (-1)];refine⟨Or.inr ⟨⟨_,F4⟩,rfl⟩,?_⟩
    try simp only[Act.put,ae,ah,ag]
    refine fJ (by kernel_rfl) ?_
    go_wp2_with fail
    go_meet
    exact⟨p,rfl,HP,L4,F4⟩
   .refine eE rfl rfl ?_;go_simp;have L2:=ai v1 (.cells #[.int .i64 0,.int .i64 0,.int .i64 0] 53);have HP:=F1.size;have F2:=eA F1 (eC v1 (.cells #[.int .i64 0,.int .i64 0,.int .i64 0] 53));have C2:=C1.ext (eC v1 (.cells #[.int .i64 0,.int .i64 0,.int .i64 0] 53));refine⟨Or.inr ⟨⟨_,F2⟩,rfl⟩,?_⟩;generalize v1.heap.size=p at *;generalize v1.alloc (.cells #[.int .i64 0,.int .i64 0,.int .i64 0] 53)=v2 at*
    try simp only[Act.put,ae,ah,ag]
    refine eO 4 (by kernel_rfl) ?_;refine eE rfl rfl ?_;go_simp;refine(KQ gI gF gT gB gC v2 (HG2.out.ext F2).2.1 (HG2.out.ext F2).2.2 C2).mono ?_;rintro e v3 ⟨rfl,hb⟩;have F3:=eA F2 hb;have L3:=eB hb L2;refine⟨Or.inr ⟨⟨_,F3⟩,rfl⟩,?_⟩;clear hb
    try simp only[Act.put,ae,ah,ag]
    refine eO 6 (by kernel_rfl) ?_;refine eE rfl rfl ?_;refine aE 53 _ _ rfl p #[.int .i64 0,.int .i64 (-1),.int .i64 (-1)] rfl rfl 53 _ L3 rfl rfl (by kernel_rfl) ?_;have L4:(v3.setRow p #[.int .i64 0,.int .i64 (-1),.int .i64 (-1)]).heap[p]? =some (.cells #[.int .i64 0,.int .i64 (-1),.int .i64 (-1)] 53 (0,0)):=aG _ _ _ _ _ _ L3;have F4:=aA F3 HP #[.int .i64 0,.int .i64 (-1),.int .i64 (-1)];refine⟨Or.inr ⟨⟨_,F4⟩,rfl⟩,?_⟩
    try simp only[Act.put,ae,ah,ag]
    refine fJ (by kernel_rfl) ?_
    go_wp2_with fail
    go_meet
    exact⟨p,rfl,HP,L4,F4⟩
  .refine eE rfl rfl ?_;go_simp;have L1:=ai v0 (.cells #[.int .i64 0,.int .i64 0,.int .i64 0] 53);have HP:=F0.size;have F1:=eA F0 (eC v0 (.cells #[.int .i64 0,.int .i64 0,.int .i64 0] 53));refine⟨Or.inr ⟨⟨_,F1⟩,rfl⟩,?_⟩;generalize v0.heap.size=p at *;generalize v0.alloc (.cells #[.int .i64 0,.int .i64 0,.int .i64 0] 53)=v1 at*
   try simp only[Act.put,ae,ah,ag]
   refine eO 3 (by kernel_rfl) ?_;refine eE rfl rfl ?_;go_simp;refine(vO v1).mono ?_;rintro e v2 ⟨gC,rfl,hc0,hc1,-,hb⟩;have F2:=eA F1 hb;have C2:nV v2 gC:=⟨hc0,hc1⟩
   have L2:=eB hb L1;refine⟨Or.inr ⟨⟨_,F2⟩,rfl⟩,?_⟩;clear hb hc0 hc1
   try simp only[Act.put,ae,ah,ag]
   refine eO 4 (by kernel_rfl) ?_;refine eE rfl rfl ?_;go_simp;refine(KQ gI gF gT gB gC v2 (HG2.out.ext F2).2.1 (HG2.out.ext F2).2.2 C2).mono ?_;rintro e v3 ⟨rfl,hb⟩;have F3:=eA F2 hb;have L3:=eB hb L2;refine⟨Or.inr ⟨⟨_,F3⟩,rfl⟩,?_⟩;clear hb
   try simp only[Act.put,ae,ah,ag]
   refine eO 6 (by kernel_rfl) ?_;refine eE rfl rfl ?_;refine aE 53 _ _ rfl p #[.int .i64 0,.int .i64 (-1),.int .i64 (-1)] rfl rfl 53 _ L3 rfl rfl (by kernel_rfl) ?_;have L4:(v3.setRow p #[.int .i64 0,.int .i64 (-1),.int .i64 (-1)]).heap[p]? =some (.cells #[.int .i64 0,.int .i64 (-1),.int .i64 (-1)] 53 (0,0)):=aG _ _ _ _ _ _ L3;have F4:=aA F3 HP #[.int .i64 0,.int .i64 (-1),.int .i64 (-1)];refine⟨Or.inr ⟨⟨_,F4⟩,rfl⟩,?_⟩
   try simp only[Act.put,ae,ah,ag]
   refine fJ (by kernel_rfl) ?_
   go_wp2_with fail
   go_meet
   exact⟨p,rfl,HP,L4,F4⟩
 case rest=>
  clear m0 m1 m2 m3 f0 f1 t0 t1;obtain⟨p4,rfl,hp4,hr4,hb⟩:=hcut;obtain⟨w3,rfl⟩:∃w3,w3=wc:=⟨_,rfl⟩
  have hg3:=HG2.out.ext hb;obtain⟨t0,t1⟩:=qR hg3.1.2.2 rfl;obtain⟨b0,b1,b2,b3,b4⟩:=nN hg3.2.2.2 rfl;have HG3:=ac hg3;have HR4:=ac hr4;have HP4:=ac hp4;have HX3:=ac (eA HX2.out hb);clear hb hg3 hr4 hp4;go_wp2;refine iZ (λw'=>∃n:eH w3,w'=n.val) (by kernel_rfl) ?_;have hne:Nonempty (eH w3):=⟨⟨w3,ao _ _⟩⟩
  obtain⟨w6,F6,hv6⟩:∃v0,Below w3.heap.size w3 v0/\w3.drew=v0:=⟨_,eS (ao _ _) 1,rfl⟩
  rw[hv6];clear hv6;have r1:=λn:eH w3=>eH.cell t0 n;have r2:=λn:eH w3=>eH.cell t1 n;have r3:=λn:eH w3=>eH.cell b0 n;clear t0 t1 b0 b1 b2 b3 b4;refine eK 0 10 (by kernel_rfl) ⟨⟨_,F6⟩,rfl⟩ ?_;simp only[ak,aq,aj,ap]
  repeat (go_big_quiet_step (fail))
  refine ar ?_;clear r1 r2 r3 hne;refine eO 10 (by kernel_rfl) ?_;refine eE rfl rfl ?_;have hg3:=HG3.out.ext F6;have hx3:=eA HX3.out F6;have hr3:=eB F6 HR4.out;clear HG3 HX3 HR4;have b0:=(nN hg3.2.2.2 rfl).1;have z0:=(p6 hg3.2.2.2).1;have HG3:=ac hg3;have HX3:=ac hx3;have HR4:=ac hr3;clear hg3 hx3 hr3;go_simp;refine⟨Or.inl (by kernel_rfl),?_⟩;refine fJ (by kernel_rfl) ?_;have hg4:=HG3.out.set HBP.out;have hb4:Below w.heap.size w (w6.setCell ⟨gB,0,none⟩ (.slice (some ⟨gT,0,none⟩) 1 2)):=HX3.out.setCell (p:=⟨gB,0,none⟩) HL.out _;have hr4:(w6.setCell ⟨gB,0,none⟩ (.slice (some ⟨gT,0,none⟩) 1 2)).heap[p4]? =some (.cells #[.int .i64 0,.int .i64 (-1),.int .i64 (-1)] 53 (0,0)):=(dE _ _ _ _ (by have h1:=HP4.out;have h2:=HS2.out;have h3:=HBP.out;show p4≠gB;omega)).trans HR4.out;generalize w6.setCell ⟨gB,0,none⟩ (.slice (some ⟨gT,0,none⟩) 1 2)=w4 at *;have HG4:=ac hg4;have HX4:=ac hb4;have HQ4:=ac hr4;clear hg4 hb4 hr4 HG3 HX3 HR4;go_wp2;obtain⟨m0,m1,m2,m3⟩:=wD HG4.out.1.1 rfl;obtain⟨f0,f1⟩:=qR HG4.out.1.2.1 rfl;obtain⟨t0,t1⟩:=qR HG4.out.1.2.2 rfl
  go_cut [5] (λs5 wx=>∃p,s5=.pointer (some ⟨p,0,none⟩)/\w4.heap.size<=p/\wx.heap[p]? =some (.cells #[.int .i64 14,.int .i64 0,.int .i64 0] 53 (0,0))/\Below w4.heap.size w4 wx)
  case first=>
   refine iZ (λw'=>∃n:eH w4,w'=n.val) (by kernel_rfl) ?_;have hne:Nonempty (eH w4):=⟨⟨w4,ao _ _⟩⟩
   obtain⟨v0,F0,hv0⟩:∃v0,Below w4.heap.size w4 v0/\w4.drew=v0:=⟨_,eS (ao _ _) 1,rfl⟩
   rw[hv0];clear hv0;have r0:=λn:eH w4=>eH.cell m0 n;have r1:=λn:eH w4=>eH.cell m1 n;have r2:=λn:eH w4=>eH.cell m2 n;have r3:=λn:eH w4=>eH.cell m3 n;have r4:=λn:eH w4=>eH.cell f0 n;have r5:=λn:eH w4=>eH.cell f1 n;have r6:=λn:eH w4=>eH.cell t0 n;have r7:=λn:eH w4=>eH.cell t1 n;clear m0 m1 m2 m3 f0 f1 t0 t1;refine eK 0 3 (by kernel_rfl) ⟨⟨_,F0⟩,rfl⟩ ?_;simp only[ak,aq,aj,ap]
   repeat (go_big_quiet_step (fail))
   refine ar ?_;refine lU 3 5 (by kernel_rfl) ?_ ?_
   .refine eE rfl rfl ?_;go_simp;refine(vO v0).mono ?_;rintro e v1 ⟨gC,rfl,hc0,hc1,-,hb⟩;have F1:=eA F0 hb;have C1:nV v1 gC:=⟨hc0,hc1⟩
    refine⟨Or.inr ⟨⟨_,F1⟩,rfl⟩,?_⟩;clear hb hc0 hc1
    try simp only[Act.put,ae,ah,ag]
    refine lU 4 5 (by kernel_rfl) ?_ ?_
    .refine eE rfl rfl ?_;go_simp;refine(KR gI gF gT gB gC v1 (HG4.out.ext F1).2.1 (HG4.out.ext F1).2.2 C1).mono ?_;rintro e v2 ⟨rfl,hb⟩;have F2:=eA F1 hb;refine⟨Or.inr ⟨⟨_,F2⟩,rfl⟩,?_⟩;clear hb
     try simp only[Act.put,ae,ah,ag]
     refine eO 5 (by kernel_rfl) ?_;refine eE rfl rfl ?_;go_simp;have L3:=ai v2 (.cells #[.int .i64 0,.int .i64 0,.int .i64 0] 53);have HP:=F2.size;have F3:=eA F2 (eC v2 (.cells #[.int .i64 0,.int .i64 0,.int .i64 0] 53));refine⟨Or.inr ⟨⟨_,F3⟩,rfl⟩,?_⟩;generalize v2.heap.size=p at *;generalize v2.alloc (.cells #[.int .i64 0,.int .i64 0,.int .i64 0] 53)=v3 at*
     try simp only[Act.put,ae,ah,ag]
     refine eO 6 (by kernel_rfl) ?_;refine eE rfl rfl ?_;refine aE 53 _ _ rfl p #[.int .i64 14,.int .i64 0,.int .i64 0] rfl rfl 53 _ L3 rfl rfl (by kernel_rfl) ?_;have L4:(v3.setRow p #[.int .i64 14,.int .i64 0,.int .i64 0]).heap[p]? =some (.cells #[.int .i64 14,.int .i64 0,.int .i64 0] 53 (0,0)):=aG _ _ _ _ _ _ L3;have F4:=aA F3 HP #[.int .i64 14,.int .i64 0,.int .i64 0];refine⟨Or.inr ⟨⟨_,F4⟩,rfl⟩,?_⟩
     try simp only[Act.put,ae,ah,ag]
     refine fJ (by kernel_rfl) ?_
     go_wp2_with fail
     go_meet
     exact⟨p,rfl,HP,L4,F4⟩
    .refine eE rfl rfl ?_;go_simp;have L2:=ai v1 (.cells #[.int .i64 0,.int .i64 0,.int .i64 0] 53);have HP:=F1.size;have F2:=eA F1 (eC v1 (.cells #[.int .i64 0,.int .i64 0,.int .i64 0] 53));have C2:=C1.ext (eC v1 (.cells #[.int .i64 0,.int .i64 0,.int .i64 0] 53));refine⟨Or.inr ⟨⟨_,F2⟩,rfl⟩,?_⟩;generalize v1.heap.size=p at *;generalize v1.alloc (.cells #[.int .i64 0,.int .i64 0,.int .i64 0] 53)=v2 at*
     try simp only[Act.put,ae,ah,ag]
     refine eO 4 (by kernel_rfl) ?_;refine eE rfl rfl ?_;go_simp;refine(KR gI gF gT gB gC v2 (HG4.out.ext F2).2.1 (HG4.out.ext F2).2.2 C2).mono ?_;rintro e v3 ⟨rfl,hb⟩;have F3:=eA F2 hb;have L3:=eB hb L2;refine⟨Or.inr ⟨⟨_,F3⟩,rfl⟩,?_⟩;clear hb
     try simp only[Act.put,ae,ah,ag]
     refine eO 6 (by kernel_rfl) ?_;refine eE rfl rfl ?_;refine aE 53 _ _ rfl p #[.int .i64 14,.int .i64 0,.int .i64 0] rfl rfl 53 _ L3 rfl rfl (by kernel_rfl) ?_;have L4:(v3.setRow p #[.int .i64 14,.int .i64 0,.int .i64 0]).heap[p]? =some (.cells #[.int .i64 14,.int .i64 0,.int .i64 0] 53 (0,0)):=aG _ _ _ _ _ _ L3;have F4:=aA F3 HP #[.int .i64 14,.int .i64 0,.int .i64 0];refine⟨Or.inr ⟨⟨_,F4⟩,rfl⟩,?_⟩
     try simp only[Act.put,ae,ah,ag]
     refine fJ (by kernel_rfl) ?_
     go_wp2_with fail
     go_meet
     exact⟨p,rfl,HP,L4,F4⟩
   .refine eE rfl rfl ?_;go_simp;have L1:=ai v0 (.cells #[.int .i64 0,.int .i64 0,.int .i64 0] 53);have HP:=F0.size;have F1:=eA F0 (eC v0 (.cells #[.int .i64 0,.int .i64 0,.int .i64 0] 53));refine⟨Or.inr ⟨⟨_,F1⟩,rfl⟩,?_⟩;generalize v0.heap.size=p at *;generalize v0.alloc (.cells #[.int .i64 0,.int .i64 0,.int .i64 0] 53)=v1 at*
    try simp only[Act.put,ae,ah,ag]
    refine eO 3 (by kernel_rfl) ?_;refine eE rfl rfl ?_;go_simp;refine(vO v1).mono ?_;rintro e v2 ⟨gC,rfl,hc0,hc1,-,hb⟩;have F2:=eA F1 hb;have C2:nV v2 gC:=⟨hc0,hc1⟩
    have L2:=eB hb L1;refine⟨Or.inr ⟨⟨_,F2⟩,rfl⟩,?_⟩;clear hb hc0 hc1
    try simp only[Act.put,ae,ah,ag]
    refine eO 4 (by kernel_rfl) ?_;refine eE rfl rfl ?_;go_simp;refine(KR gI gF gT gB gC v2 (HG4.out.ext F2).2.1 (HG4.out.ext F2).2.2 C2).mono ?_;rintro e v3 ⟨rfl,hb⟩;have F3:=eA F2 hb;have L3:=eB hb L2;refine⟨Or.inr ⟨⟨_,F3⟩,rfl⟩,?_⟩;clear hb
    try simp only[Act.put,ae,ah,ag]
    refine eO 6 (by kernel_rfl) ?_;refine eE rfl rfl ?_;refine aE 53 _ _ rfl p #[.int .i64 14,.int .i64 0,.int .i64 0] rfl rfl 53 _ L3 rfl rfl (by kernel_rfl) ?_;have L4:(v3.setRow p #[.int .i64 14,.int .i64 0,.int .i64 0]).heap[p]? =some (.cells #[.int .i64 14,.int .i64 0,.int .i64 0] 53 (0,0)):=aG _ _ _ _ _ _ L3;have F4:=aA F3 HP #[.int .i64 14,.int .i64 0,.int .i64 0];refine⟨Or.inr ⟨⟨_,F4⟩,rfl⟩,?_⟩
    try simp only[Act.put,ae,ah,ag]
    refine fJ (by kernel_rfl) ?_
    go_wp2_with fail
    go_meet
    exact⟨p,rfl,HP,L4,F4⟩
  case rest=>
   clear m0 m1 m2 m3 f0 f1 t0 t1;obtain⟨p5,rfl,hp5,hr5,hb⟩:=hcut;obtain⟨w5,rfl⟩:∃w5,w5=wc:=⟨_,rfl⟩
   obtain⟨c0,c1,c2⟩:=tY (eB hb HQ4.out) rfl;obtain⟨d0,d1,d2⟩:=tY hr5 rfl;have HX5:=ac (eA HX4.out hb);have e0:=qb;have e1:=qa;clear hb hr5;go_wp2;exact aD (v:=.bool true) (by simp[results,Tryz.results4,go_sem]) rfl ⟨rfl,HX5.out⟩
end

section
def MO(K K':Fct->Bool):Prop:=∀x,K x=true->K' x=true
theorem OI{fe e:Int}(he:e≠0):rU fe e≠0:=by
 unfold rU
 split<;>assumption
theorem KX{K K':Fct->Bool}(h:MO K K'){fe fe' e:Int}(he:e≠0)(hf:fe'≠0->fe≠0)(x:Fct):oX K' x fe' e≠0->oX K x fe e≠0:=by
 unfold oX
 intro h1
 split
 .rename_i hk
  rw[aX (h x hk)] at h1;exact hf h1
 .exact OI he
theorem DU{K K':Fct->Bool}(h:MO K K'){e:Int}(he:e≠0):∀(l:List Fct) {fe fe':Int},(fe'≠0->fe≠0)->mM K' l fe' e≠0->mM K l fe e≠0
 | [],_,_,hf=>hf
 |x :: l,_,_,hf=>DU h he l (KX h he hf x)
def LeF(x y:KF):Prop:=MO x.1 y.1/\(y.2≠0->x.2≠0)
theorem n9(m:eY)(r:fW){x y:KF}(h:LeF x y):LeF (AZ m x r) (AZ m y r):=by
 refine⟨λz=>?_,?_⟩
 .show uC _ _ x.1 z=true->uC _ _ y.1 z=true;unfold uC
  split
  .exact h.1 _
  .exact h.1 _
 .show atV y.1 _ y.2≠0->atV x.1 _ x.2≠0;unfold atV;intro h1
  split
  .rename_i hk
   obtain⟨z,hz,hp⟩:=hk;rw[aX ⟨z,h.1 z hz,hp⟩] at h1;exact h.2 h1
  .exact OI (by omega)
theorem CR(m:eY):∀(l:List fW) {x y:KF},LeF x y->LeF (pL m l x) (pL m l y)
 | [],_,_,h=>h
 |r :: l,_,_,h=>CR m l (n9 m r h)
theorem ml(i:fW){x y:KF}(h:LeF x y):LeF (wJ i x) (wJ i y):=by
 refine⟨λz=>?_,h.2⟩
 show wE _ _ x.1 z=true->wE _ _ y.1 z=true
 unfold wE
 split
 .exact h.1 _
 .exact h.1 _
theorem UO(v:Int):∀(ps:List (Bool×Int)) {K K':Fct->Bool},MO K K'->MO (tN v ps K) (tN v ps K')
 | [],_,_,h=>h
 |p :: ps,K,K',h=>UO v ps (λz=>by
    show GD v K p z=true->GD v K' p z=true;unfold GD
    split
    .exact id
    .exact h z)
theorem mf(m:eY)(i u:fW){x y:KF}(h:LeF x y):LeF (wI m i u x) (wI m i u y):=by
 refine⟨?_,DU h.1 (by omega) _ h.2⟩
 show MO (BC m i.d u.d x.1) (BC m i.d u.d y.1)
 unfold BC
 refine UO _ _ λz=>?_
 unfold RB
 split
 .unfold pQ;simp only[az];exact λh1=>⟨⟨h.1 z h1.1.1,h1.1.2⟩,h1.2⟩
 .simp only[az];exact λh1=>⟨h.1 z h1.1,h1.2⟩
theorem ZP(m:eY):∀(sl tl:List fW) {x y:KF},LeF x y->LeF (kL m sl tl x) (kL m sl tl y)
 | [],tl,_,_,h=>CR m _ h
 |i :: sl,tl,_,_,h=>by
  rw[kL,kL]
  split
  .exact ZP m sl tl (ml i h)
  .cases hd:tl.dropWhile eQ with
   |nil=>exact CR m _ h
   |cons u tl'=>exact ZP m sl tl' (mf m i u (CR m _ h))
theorem ky(m:eY)(s t:mP){K K':Fct->Bool}(h:MO K K'):LeF (kA m s t (K,0)) (kA m s t (K',0)):=by
 have h1:=ZP m s.ins t.ins (x:=(K,0)) (y:=(K',0)) ⟨h,id⟩
 refine⟨h1.1,?_⟩
 show tQ m _ _ _ _≠0->tQ m _ _ _ _≠0
 unfold tQ
 split
 .exact KX h1.1 (by omega) h1.2 _
 .split
  .refine DU h1.1 (by omega) _ ?_
   split
   .exact h1.2
   .exact KX h1.1 (by omega) h1.2 _
  .exact h1.2
def DD(ls:List Fct)(k:Nat):List Fct:=ls.take k++ls.drop (k+1)
theorem ON{ls:List Fct}{k:Nat}:(DD ls k).Sublist ls:=by
 unfold DD
 have h:=(List.Sublist.refl (ls.take k)).append (List.drop_sublist_drop_left ls (Nat.le_succ k))
 rwa [List.take_append_drop] at h
theorem AJ:∀(l:List Fct),rS l=true↔l.Pairwise λx y=>ltF x y=true
 | []=>by simp[rS]
 | [x]=>by simp[rS]
 |x :: y :: l=>by
  rw[rS,az,AJ (y :: l),dX (a:=x)];constructor
  .rintro⟨h1,h2⟩;refine⟨λz hz=>?_,h2⟩;rcases aH.1 hz with rfl|hz
   .exact h1
   .exact AL h1 ((dX.1 h2).1 z hz)
  .rintro⟨h1,h2⟩;exact⟨h1 y (aM ..),h2⟩
theorem ic{ls:List Fct}{k:Nat}(h:rS ls=true):rS (DD ls k)=true:=(AJ _).2 (((AJ _).1 h).sublist ON)
theorem ow(ls:List Fct)(k:Nat):MO (K0 (DD ls k)) (K0 ls):=λx h=>by
 unfold K0 at h|-
 exact dm (ON.subset (dc h))
theorem iu{m:eY}{s t:mP}{ls la lb:List Fct}{k:Nat}(ha:∀y,y∈la↔(kA m s t (K0 ls,0)).1 y=true)(hb:∀y,y∈lb↔(kA m s t (K0 (DD ls k),0)).1 y=true):
  (∀x∈lb,x∈la)/\((kA m s t (K0 ls,0)).2≠0->(kA m s t (K0 (DD ls k),0)).2≠0):=by
 have h:=ky m s t (ow ls k)
 exact⟨λx hx=>(ha x).2 (h.1 x ((hb x).1 hx)),h.2⟩
end
end Go.Proofs.YtchdkjenhppleaaGreat
