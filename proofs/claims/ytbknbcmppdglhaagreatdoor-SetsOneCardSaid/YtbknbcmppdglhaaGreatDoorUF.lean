/-
 Edge:Between,Into,Out.
-/
import Derived.Test.YtbknbcmppdglhaaGreatDoorA0
import Derived.Test.YtbknbcmppdglhaaGreatDoorEI
import Derived.Test.YtbknbcmppdglhaaGreatDoorUD
import Derived.Test.YtbknbcmppdglhaaGreatDoorPB
import Derived.Shelf.SlMaps.Clone
import Derived.Test.YtbknbcmppdglhaaGreatDoorSC
import Derived.Deep.Cut
import Derived.Deep.CutRange
import Derived.Deep.DeepCutAuto
namespace Go.Proofs.YtbknbcmppdglhaaGreatDoor
set_option linter.unusedSimpArgs false
set_option linter.unusedVariables false
set_option linter.unusedSectionVars false
set_option maxRecDepth 100000
set_option maxHeartbeats 40000000
section
open Go.RowKit Go.Shelf
attribute [local go_sem] Oper.semAt_some iF gH gS fX
def vY(l:List fT)(k:Int)(x:kD):Bool:=(oF l x.to.toNat:Int)==k
def EB(l:List fT)(k:Int)(x:kD):Bool:=(oF l x.fr.toNat:Int)==k
theorem sz{l:List fT}{n i:Nat}(h:i<n):(yJ l n).getD i 0=(oF l i:Int):=by
 have:(List.range n)[i]? =some i:=by rw[ew h]
 simp[yJ,ak,this]
theorem wv(l:List fT)(n:Nat)(a:Option Addr)(ln lc:Nat)(k:Int)(x:kD)(W:World)(base:Nat)(v:Value)(h:nU W base l n a ln lc v)(hx:0<=x.to/\x.to<n):
  Calls Tryz.prog 172 #[.int .i64 k,v,BG x] W λe W'=>e=.returned (.bool (vY l k x))/\Below W.heap.size W W':=by
 obtain⟨g,c,M,rfl,ho,_,_⟩:=h
 obtain⟨fr,arm,tt⟩:=x
 simp only at hx
 obtain⟨j,rfl⟩:∃j:Nat,tt=j:=⟨tt.toNat,by omega⟩
 obtain⟨b1,o1,e1,cj,_⟩:=ho.2.2 j (by omega)
 injection e1 with e1
 injection e1 with e1 e2
 subst e1 e2
 rw[sz (by omega),bQ] at cj
 have hlt:=bA _ _ cj
 have hj:(0:Int)<=(j:Int)/\(j:Int)<(n:Int):=by omega
 clear ho
 go_enter Tryz.func172,Tryz.ntmps172
 go_upto_region 1 with (fail)
 have cj2:=fZ (fC (fD W (.cells #[.slice a ln lc,.slice (some ⟨g,0,none⟩) n c,.map (some M)] 328)) (fD _ (sr ⟨fr,arm,(j:Int)⟩))) cj
 go_wp2
 go_ret
 exact⟨rfl,fC (fD _ _) (fD _ _)⟩
theorem zu(l:List fT)(n:Nat)(a:Option Addr)(ln lc:Nat)(k:Int)(x:kD)(W:World)(base:Nat)(v:Value)(h:nU W base l n a ln lc v)(hx:0<=x.fr/\x.fr<n):
  Calls Tryz.prog 173 #[.int .i64 k,v,BG x] W λe W'=>e=.returned (.bool (EB l k x))/\Below W.heap.size W W':=by
 obtain⟨g,c,M,rfl,ho,_,_⟩:=h
 obtain⟨fr,arm,tt⟩:=x
 simp only at hx
 obtain⟨j,rfl⟩:∃j:Nat,fr=j:=⟨fr.toNat,by omega⟩
 obtain⟨b1,o1,e1,cj,_⟩:=ho.2.2 j (by omega)
 injection e1 with e1
 injection e1 with e1 e2
 subst e1 e2
 rw[sz (by omega),bQ] at cj
 have hlt:=bA _ _ cj
 have hj:(0:Int)<=(j:Int)/\(j:Int)<(n:Int):=by omega
 clear ho
 go_enter Tryz.func173,Tryz.ntmps173
 go_upto_region 1 with (fail)
 have cj2:=fZ (fC (fD W (.cells #[.slice a ln lc,.slice (some ⟨g,0,none⟩) n c,.map (some M)] 328)) (fD _ (sr ⟨(j:Int),arm,tt⟩))) cj
 go_wp2
 go_ret
 exact⟨rfl,fC (fD _ _) (fD _ _)⟩
theorem jj(args:Array Value)(w:World):(callFunc 172 args).run Tryz.prog w=.ok (.enter 172 args) w:=dK Tryz.func172 (by kernel_rfl) rfl args w
theorem qo(args:Array Value)(w:World):(callFunc 173 args).run Tryz.prog w=.ok (.enter 173 args) w:=dK Tryz.func173 (by kernel_rfl) rfl args w
section
variable (pa:Option Addr) (pn pc:Nat) (ba:Option Addr) (bn bc:Nat) (bs:List nA) (a:Option Addr) (n c:Nat) (ls:List iN) (k:Int) (w:World) (h:lZ w ba bn bs) (ht:iY w a n ls) (hT:qY (fI ls)<=1000000)
theorem wJ.up{ts:List fS}{l:List fT}{ask:kD->Bool}{w w1:World}{e:Ending}{w':World}(h:wJ ts l ask w1 e w')(hb:Below w.heap.size w w1):wJ ts l ask w e w':=by
 obtain⟨v,he,hb1,h0,h1⟩:=h
 exact⟨v,he,fC hb hb1,h0,λhr=>let ⟨hs,h2,h3⟩:=h1 hr;⟨hs,h2.mono hb.size,h3⟩⟩
include h ht hT
theorem qr:Calls Tryz.prog 87 #[mB pa pn pc ba bn bc,.slice a n c,.int .i64 k] w (wJ (fY bs) (fI ls) (vY (fI ls) k) w):=by
 have H:=ac h
 have HT:=ac ht
 have HL:Hid ((fY bs).length=bn):=by rw[Hid,lA];exact h.1.1
 clear h ht
 have HAK:Hid (∀(x:kD) (W:World) (base:Nat) (v:Value),x∈QB (fY bs)->nU W base (fI ls) bn a n c v->Calls Tryz.prog 172 (#[.int .i64 k]++ #[v,BG x]) W λe W'=>e=.returned (.bool (vY (fI ls) k x))/\Below W.heap.size W W'):=λx W base v hm har=>by
  have:=DP hm;exact wv (fI ls) bn a n c k x W base v har (by rw[<-HL.out];omega)
 go_enter Tryz.func87,Tryz.ntmps87
 go_wp2_with (
  (go_at_call 171
   refine(UP pa pn pc ba bn bc bs a n c ls 172 #[.int .i64 k] jj (vY (fI ls) k) _ (H.out.ext (fD _ _)) (HT.out.ext (fD _ _)) hT HAK.out).mono ?_;rintro e w2 hp;have hp2:=hp.up (fD _ _);obtain⟨v,rfl,hb,h0,h1⟩:=hp2;have HB:=ac hb;have H0:=ac h0;have H1:=ac h1
   clear hp hb h0 h1))
 exact aR (v:=.tuple #[v,.int .i64 (nO (fY bs) (fI ls))]) (by simp[results,Tryz.results87,go_sem,Act.put]) rfl ⟨v,rfl,HB.out,H0.out,H1.out⟩
theorem xr:Calls Tryz.prog 89 #[mB pa pn pc ba bn bc,.slice a n c,.int .i64 k] w (wJ (fY bs) (fI ls) (EB (fI ls) k) w):=by
 have H:=ac h
 have HT:=ac ht
 have HL:Hid ((fY bs).length=bn):=by rw[Hid,lA];exact h.1.1
 clear h ht
 have HAK:Hid (∀(x:kD) (W:World) (base:Nat) (v:Value),x∈QB (fY bs)->nU W base (fI ls) bn a n c v->Calls Tryz.prog 173 (#[.int .i64 k]++ #[v,BG x]) W λe W'=>e=.returned (.bool (EB (fI ls) k x))/\Below W.heap.size W W'):=λx W base v hm har=>by
  have:=DP hm;exact zu (fI ls) bn a n c k x W base v har (by rw[<-HL.out];omega)
 go_enter Tryz.func89,Tryz.ntmps89
 go_wp2_with (
  (go_at_call 171
   refine(UP pa pn pc ba bn bc bs a n c ls 173 #[.int .i64 k] qo (EB (fI ls) k) _ (H.out.ext (fD _ _)) (HT.out.ext (fD _ _)) hT HAK.out).mono ?_;rintro e w2 hp;have hp2:=hp.up (fD _ _);obtain⟨v,rfl,hb,h0,h1⟩:=hp2;have HB:=ac hb;have H0:=ac h0;have H1:=ac h1
   clear hp hb h0 h1))
 exact aR (v:=.tuple #[v,.int .i64 (nO (fY bs) (fI ls))]) (by simp[results,Tryz.results89,go_sem,Act.put]) rfl ⟨v,rfl,HB.out,H0.out,H1.out⟩
end
end

section
def qQ(bs:List iA)(b:Nat):List lP:=match bs[b]? with|some x=>x.rs|none=> []
def FU(bs:List iA)(b:Nat):List Int:=match bs[b]? with|some x=>jV x.h.t|none=> []
def oT(bs:List iA)(b:Nat):List Int:=(qQ bs b).flatMap (λr=>gV r.d)++FU bs b
def mZ(ps:List Int)(bs:List iA)(b:Nat):List Int:=(if b=0 then ps else [])++((qQ bs b).map λr=>gM r.d).filter λv=>decide (0<v)
def qW(bs:List iA)(b:Nat):List Int:=vP (gN bs) b++tX (gN bs) b++(List.range ((qQ bs b).length+1)).flatMap (atL (gN bs) b)
def BO(bs:List iA)(b:Nat):List Int:=(List.range (qQ bs b).length).flatMap λn=>match (qQ bs b)[n]? with|some r=>if r.d.op=13 then qP (atL (gN bs) b (n+1)) [r.d.dst] else []|none=> []
def IF(l:List fT)(k:Nat):List Nat:=((l.getD k ⟨0,0,[]⟩).blocks).map Int.toNat
def rR(bs:List iA)(rs:List QD):List Int:=rs.flatMap λr=>vP (gN bs) r.e.to.toNat
structure MZ where
 refs:List Int
 defs:List Int
 live:List Int
 across:List Int
 inn:List Int
 out:List Int
 thr:List Int
def setM(ps:List Int)(bs:List iA)(l:List fT)(k:Nat):MZ:=
 let D:=(IF l k).flatMap (mZ ps bs)
 let R:=(IF l k).flatMap (oT bs)++D
 let L:=(IF l k).flatMap (qW bs)
 ⟨kS R,kS D,kS L,kS ((IF l k).flatMap (BO bs)),kS (rR bs (nR (fY (hOf bs)) l (vY l k))),kS (rR bs (nR (fY (hOf bs)) l (EB l k))),qP (kS L) R⟩
def MZ.rows(s:MZ):List (List Int):= [s.refs,s.defs,s.live,s.across,s.inn,s.out,s.thr]
def CJ(ps:List Int)(bs:List iA)(l:List fT):List MZ:=(List.range l.length).map (setM ps bs l)
def uM(ps:List Int)(bs:List iA)(l:List fT):Int:=if mF ps bs≠0 then 2 else if gY (fY (hOf bs)) l=false then 12 else 0
def TQ(ps:List Int)(bs:List iA)(l:List fT):List MZ:=if uM ps bs l=0 then CJ ps bs l else []
def yC:MZ:=⟨[],[],[],[],[],[],[]⟩
def ofE(ps:List Int)(bs:List iA)(l:List fT)(k:Int):Int:=if uM ps bs l≠0 then uM ps bs l else if k<0\/(l.length:Int)<=k then 5 else 0
def ofM(ps:List Int)(bs:List iA)(l:List fT)(k:Int):MZ:=if ofE ps bs l k=0 then setM ps bs l k.toNat else yC
def sl(ps:List Int)(bs:List iA)(l:List fT)(k:Int):List Int:=kS ((ofM ps bs l k).live++(ofM ps bs l k).defs)
def nM(xs:List Int):Prop:=∀v∈xs,1<=v/\v<=200
theorem nM.append{xs ys:List Int}(h:nM xs)(k:nM ys):nM (xs++ys):=λv hv=>(ax.1 hv).elim (h v) (k v)
theorem nM.flat{α:Type}{xs:List α}{f:α->List Int}(h:∀x∈xs,nM (f x)):nM (xs.flatMap f):=λv hv=>by
 obtain⟨x,hx,hy⟩:=b5.1 hv
 exact h x hx v hy
theorem nM.vars(p:Int->Bool):nM (uQ p):=λv hv=>let ⟨h1,h2,_⟩:=wM.1 hv;⟨h1,h2⟩
theorem nz(xs:List Int):kS xs=uQ λv=>decide (v∈xs):=rfl
theorem uo(bs:List iA)(b:Nat):nM (oT bs b):=by
 refine nM.append (nM.flat λr _ v hv=>AM hv) λv hv=>?_
 unfold FU at hv
 split at hv
 .exact AO hv
 .cases hv
theorem xw{ps:List Int}{bs:List iA}(h:nM ps)(b:Nat):nM (mZ ps bs b):=by
 refine nM.append ?_ λv hv=>?_
 .split
  .exact h
  .intro v hv;cases hv
 .obtain⟨h1,h2⟩:=bI.1 hv;obtain⟨r,_,rfl⟩:=a8.1 h1;have:=lX r.d;simp only[aN] at h2;omega
theorem vy(bs:List iA)(b:Nat):nM (qW bs b):=(nM.append (nM.append (nM.vars _) (nM.vars _)) (nM.flat λ_ _=>nM.vars _))
theorem VI{xs:List Int}(h:nM xs)(ys:List Int):nM (qP xs ys):=λv hv=>h v (bI.1 hv).1
theorem yq(bs:List iA)(b:Nat):nM (BO bs b):=nM.flat λn _=>by
 split
 .split
  .exact VI (nM.vars _) _
  .intro v hv;cases hv
 .intro v hv;cases hv
theorem WA(bs:List iA)(rs:List QD):nM (rR bs rs):=nM.flat λ_ _=>nM.vars _
theorem zq{ps:List Int}(h:ps.all qG=true):nM ps:=λv hv=>by
 have:=aV.1 h v hv
 simp only[qG,aN,aB] at this
 omega
theorem gc{ps:List Int}{bs:List iA}(h:kJ ps bs=true):nM ps:=by
 rw[kJ,aB,IU,aB] at h
 exact zq h.1.1
theorem f7{xs ys:List Int}(h:∀v,1<=v->v<=200->(v∈xs↔v∈ys)):kS xs=kS ys:=by
 unfold kS yH
 congr 1
 refine dI λv hv=>?_
 obtain⟨h1,h2⟩:=eu.1 hv
 have:=h (v:Int) (by omega) (by omega)
 by_cases hx:(v:Int)∈xs
 .rw[bS hx,bS (this.1 hx)]
 .rw[dE hx,dE λc=>hx (this.2 c)]
theorem vz{xs ys:List Int}:qP (kS xs) ys=kS (qP xs ys):=by
 unfold qP kS yH
 rw[List.filter_map,List.filter_filter]
 congr 1
 refine dI λv hv=>?_
 simp only[Function.comp_apply,bI,dm,cg,Bool.decide_and]
 by_cases h1:(v:Int)∈xs<;>by_cases h2:(v:Int)∈ys<;>simp[h1,h2]
end

section
open Go.RowKit Go.Shelf
attribute [local go_sem] Oper.semAt_some iF gH gS fX
theorem jp(b:Nat)(p:Int->Prop)(w:World)(h:jU w b p):
  Calls Tryz.prog 90 #[.map (some b)] w λe w'=>e=.returned (.map (some w.heap.size))/\jU w' w.heap.size p/\Below w.heap.size w w':=by
 obtain⟨L,hL,hm⟩:=h
 obtain⟨es,clock,hb,hc⟩:=hL.copy
 have HC:=ac hc
 have HM:=ac hm
 have hq:=λw=>run_eql_map_nil_sl (P:=Tryz.prog) w 77 _ _ (some b) JH
 clear hL hc hm
 go_enter Tryz.func90,Tryz.ntmps90
 go_wp2
 rw[run_callFunc_extern Tryz.func174 (by kernel_rfl) (by kernel_rfl) (by kernel_rfl) (e:=Extern.MapsClone.clone) (by kernel_rfl),run_maps_clone_sl w 77 hb]
 simp only[Result.andThen]
 rw[Oper.upon_value]
 go_wp2
 rw[run_typeAssert_map_sl _ 77 20 _ _ _ JH]
 simp only[Result.andThen]
 rw[Oper.upon_value]
 go_wp2
 go_ret
 exact⟨rfl,⟨L,HC.out,HM.out⟩,fD _ _⟩
theorem pS.del{α:Type}{P:Program}{t kt et:TypeId}{enc:α->Value}{dec:Value->α}{one:Value}{w:World}{b r:Nat}{L R:List α}(h:pS enc dec one w b r L R)(K:mz P kt enc dec)(ht:P.underlying t=some (.map kt et))(x:α)(hx:x∉R)(ty:TypeId):
  ∃o L',(Builtin.delete_ #[t,kt] ty #[.map (some b),enc x]).run P w=.ok (.tuple #[]) (w.putObj b o)/\pS enc dec one (w.putObj b o) b r L' R/\∀y,y∈L'↔y∈L/\y≠x:=by
 have hlt:=h.lt
 obtain⟨es,c,since,seen,c0,hb,hi,rfl,hn,hbn,hr,hs,h8,h9,rfl⟩:=h
 have hgo:(getObj b).run P w=.ok (.map es c) w:=by simp[getObj,Sem.run,hb]
 have hso:∀o,(setObj b o).run P w=.ok () (w.putObj b o):=λo=>by simp[setObj,Sem.run,hb,World.putObj]
 have hr2:∀o,(w.putObj b o).heap[r]? =some (.mapIter (some b) since seen c0):=λo=>(bo hlt.2.2).trans hr
 rcases K.find x w es.toList (λe he=>(hi e he).1) with ⟨h1,h2⟩|⟨j,e,h1,h2,h3⟩
 .refine⟨.map es c,_,?_,⟨_,_,_,_,_,dc hlt.1,hi,rfl,hn,hbn,hr2 _,hs,h8,h9,rfl⟩,λy=>⟨λhy=>⟨hy,λe=>h1 (e▸hy)⟩,λhy=>hy.1⟩⟩;simp[Builtin.delete_,bT ht,hgo,K.check,h2,hso,Result.andThen]
 .have hjl:j<es.toList.length:=(aE.1 h1).1;have hjs:j<es.size:=by simpa using hjl
  have hlist:(es.eraseIdxIfInBounds j).toList=es.toList.eraseIdx j:=by
   unfold Array.eraseIdxIfInBounds;rw[dif_pos hjs];simp
  have hsub:(es.toList.eraseIdx j).Sublist es.toList:=List.eraseIdx_sublist _ _
  have hseen:e.born∈seen.toList:=bE λhc=>hx (a8.2 ⟨e,by
   unfold leftOf;rw[eU,bI]
   exact⟨aK h1,by simpa using hc⟩,h2⟩)
  have hleft:(leftOf (es.eraseIdxIfInBounds j) seen).toList=(leftOf es seen).toList:=by
   unfold leftOf;rw[eU,eU,hlist];have e1:es.toList=es.toList.take j++e :: es.toList.drop (j+1):=by
    have:=eI j es.toList;rw[cn hjl] at this;rw[(aE.1 h1).2] at this;exact this.symm
   rw[List.eraseIdx_eq_take_drop_succ,bB]
   conv=>rhs;rw[e1,bB,b6]
   rw[az (by simpa using hseen)]
  refine⟨.map (es.eraseIdxIfInBounds j) c,(es.toList.eraseIdx j).map (λe=>dec e.key),?_,⟨_,_,since,seen,c0,dc hlt.1,?_,by rw[hlist],(hsub.map _).nodup hn,by rw[hlist];exact(hsub.map _).nodup hbn,hr2 _,?_,h8,h9,by rw[hleft]⟩,λy=>?_⟩
  .simp[Builtin.delete_,bT ht,hgo,K.check,h3,hso,Result.andThen]
  .intro e' he';rw[hlist] at he';exact hi e' (hsub.subset he')
  .intro e' he';rw[hlist] at he';exact hs e' (hsub.subset he')
  .rw[a8];constructor
   .rintro⟨e',he',rfl⟩;obtain⟨i,hne,hi'⟩:=List.mem_eraseIdx_iff_getElem?.1 he';refine⟨a8.2 ⟨e',aK hi',rfl⟩,λhy=>hne ?_⟩;have hl:=(aE.1 hi').1;have h5:(es.toList.map (λe=>dec e.key))[i]? =(es.toList.map (λe=>dec e.key))[j]?:=by
     rw[dt,dt,hi',h1];simp[hy,h2]
    exact(List.getElem?_inj (by simpa using hl) hn).1 h5
   .rintro⟨hy,hne⟩;obtain⟨e',he',rfl⟩:=a8.1 hy;obtain⟨i,hi'⟩:=List.getElem?_of_mem he';refine⟨e',List.mem_eraseIdx_iff_getElem?.2 ⟨i,λc=>hne ?_,hi'⟩,rfl⟩;subst c;rw[h1] at hi';cases hi';exact h2
structure CI where
 lv:UC
 pa:Option Addr
 pn:Nat
 pc:Nat
 ba:Option Addr
 bn:Nat
 bc:Nat
 ta:Option Addr
 tn:Nat
 tc:Nat
abbrev mw(h:CI)(r d l a i o:Option Nat):Array Value:=#[.slice h.lv.ia h.bn h.lv.ic,.slice h.lv.oa h.bn h.lv.oc,.slice h.lv.ta h.bn h.lv.tc,.slice h.pa h.pn h.pc,.slice h.ba h.bn h.bc,.slice h.ta h.tn h.tc,.map r,.map d,.map l,.map a,.map i,.map o]
abbrev PZ(h:CI)(r d l a i o:Option Nat):Obj:=.cells (mw h r d l a i o) 79 (0,0)
def UD(w:World)(C:Nat)(h:CI)(r d l a i o:Option Nat):Prop:=∀j v,(mw h r d l a i o)[j]? =some v->w.cell? ⟨C,j,none⟩=some v
theorem NW(w:World):(zeroValue 3).run Tryz.prog w=.ok (.int .i64 0) w:=by kernel_rfl
theorem zi(rm:Nat)(R:List Int)(g C:Nat)(y x:Int)(w:World)(hg:w.cell? ⟨g,0,none⟩=some (.pointer (some ⟨C,0,none⟩)))(hC:w.cell? ⟨C,6,none⟩=some (.map (some rm)))(hr:jU w rm λz=>z∈R):
  Calls Tryz.prog 92 #[.int .i64 y,.int .i64 x,.pointer (some ⟨g,0,none⟩)] w λe w'=>e=.returned (.bool (decide (y∈R)))/\w'=w:=by
 obtain⟨L,hL,hm⟩:=hr
 have hlk:(Instr.lookup 77 (.map (some rm)) (.int .i64 y) false).run Tryz.prog w=.ok (if y∈L then .int .i64 1 else .int .i64 0) w:=oB.look hL Bp JH (NW w) y
 have hcl:=bA _ _ hC
 clear hL
 by_cases hy:y∈L
 .rw[aM hy] at hlk;rw[bS ((hm y).1 hy)];clear hm hy
  go_enter Tryz.func92,Tryz.ntmps92
  go_wp2
  go_ret
  exact⟨rfl,rfl⟩
 .rw[az hy] at hlk;rw[dE λh=>hy ((hm y).2 h)];clear hm hy
  go_enter Tryz.func92,Tryz.ntmps92
  go_wp2
  go_ret
  exact⟨rfl,rfl⟩
theorem jU.chg{w w':World}{b:Nat}{p:Int->Prop}{S:Nat->Prop}(h:jU w b p)(hc:Chg S w w')(hs:¬S b):jU w' b p:=h.kept (hc.block b h.lt hs)
theorem YC(b rm:Nat)(p:Int->Prop)(R:List Int)(g C:Nat)(w:World)(hb:jU w b p)(hg:w.cell? ⟨g,0,none⟩=some (.pointer (some ⟨C,0,none⟩)))(hC:w.cell? ⟨C,6,none⟩=some (.map (some rm)))(hr:jU w rm λz=>z∈R)(hne:rm≠b):
  Calls Tryz.prog 91 #[.map (some b),.func (.func 92) #[] #[.pointer (some ⟨g,0,none⟩)]] w λe w'=>e=.returned (.tuple #[])/\jU w' b (λy=>p y/\y∉R)/\Chg (λj=>j=b) w w':=by
 obtain⟨L0,hL0,hm0⟩:=hb
 have HL0:=ac hL0
 have HM0:=ac hm0
 have HASK:Hid (∀(W:World) (y:Int),Chg (λj=>j=b) w W->Calls Tryz.prog 92 #[.int .i64 y,.int .i64 1,.pointer (some ⟨g,0,none⟩)] W λe w'=>e=.returned (.bool (decide (y∈R)))/\w'=W):=λW y hc=>by
  have key:∀{g o:Nat} {v:Value},w.cell? ⟨g,o,none⟩=some v->W.cell? ⟨g,o,none⟩=some v:=λ{g o v} hx=>by
   rw[<-hx];have:W.heap[g]? =w.heap[g]?:=hc.block g (bA _ _ hx) λe=>by
    subst e;exact oB.nocell hL0 hx rfl
   unfold World.cell?;simp only[this]
  exact zi rm R g C y 1 W (key hg) (key hC) (hr.chg hc (by simpa using hne))
 clear hL0 hm0 hg hC hr
 go_enter Tryz.func91,Tryz.ntmps91
 go_wp2_with (refine NC rfl _ rfl JH HL0.out rfl ?_;intro w1 hi hb1 hz1;have HI1:=ac hi;have HB1:=ac hb1;clear hi hb1 hz1)
 obtain⟨r,hr⟩:∃r,r=w.heap.size:=⟨_,rfl⟩
 rw[<-hr] at HI1|-
 have HWE:Hid (w.heap.size<=r):=by rw[Hid,hr];exact aj _
 clear hr
 simp only[Act.put,ar,aH,aF]
 have HC1:Hid (Chg (λj=>j=b) w w1):=(Chg.refl _ w).of_ext HB1.out
 go_loopw [4,5] (λ_ _ wr=>∃L R',Hid (Bh wr b r L R')/\Hid (∀y,y∈L↔y∈L0/\(y∈R'\/y∉R))/\Hid (Chg (λj=>j=b) w wr)) (λ_ _ wr=>wr.rangeLeft b r)
 case atStart=>exact⟨L0,L0,HI1,λy=>⟨λh=>⟨h,.inl h⟩,λh=>h.1⟩,HC1⟩
 case round=>
  obtain⟨L,R',HIr,HM,HC⟩:=hrel;have HLT:=ac (pS.left HIr.out);clear HI1 HC1
  go_wp2_with (refine RL rfl _ rfl rfl HIr.out (λh0=>?_) (λx R2 w2 hx hR' hR hi hg hz hen=>?_))
  .subst h0;go_wp2
   go_end0
   refine⟨rfl,⟨L,HIr.out.set,λy=>?_⟩,HC.out⟩;rw[HM.out,HM0.out];simp
  .have HX:=ac hx;have HR2:=ac hR';have HRL:=ac hR;have HI2:=ac hi;have HC2:Hid (Chg (λj=>j=b) w w2):=HC.out.grown hg λk e=>by injection e with e;exact .inr (by have:=HWE.out;omega)
   have hen:(Instr.entry (.pointer (some ⟨r,0,none⟩))).run Tryz.prog w2=.ok (.tuple #[.int .i64 x,.int .i64 1]) w2:=hen;clear hx hR' hR hi hg hz;have hxR:x∉R2:=λh=>((HR2.out x).1 h).2 rfl;have HXR:=ac hxR;by_cases hq:x∈R
   .have HQ:=ac hq;obtain⟨o2,L2,hdel,hi2,hm2⟩:=HI2.out.del Bp JH x hxR 0;have HI3:=ac hi2;have HM3:=ac hm2;clear hq hxR hi2 hm2
    go_wp2_with (go_at_call 92;refine(HASK.out w2 x HC2.out).mono ?_;rw[bS HQ.out];rintro e w3 ⟨rfl,rfl⟩)
    refine⟨⟨L2,R2,HI3,λy=>?_,HC2.out.grown (lN _ b o2) λk e=>by injection e with e;exact .inl e.symm⟩,by rw[pS.left HI3.out,HLT.out];exact HRL.out⟩;rw[HM3.out,HM.out,HR2.out];by_cases e:y=x
    .subst e;simp[HQ.out]
    .simp[e]
   .have HQ:=ac hq;clear hq hxR
    go_wp2_with (go_at_call 92;refine(HASK.out w2 x HC2.out).mono ?_;rw[dE HQ.out];rintro e w3 ⟨rfl,rfl⟩)
    go_roundw
    case rel=>exact⟨L,R2,HI2,λy=>by
     rw[HM.out,HR2.out];by_cases e:y=x
     .subst e;simp[HQ.out]
     .simp[e],HC2⟩
    case measure=>rw[pS.left HI2.out,HLT.out];exact HRL.out
end

section
open Go.RowKit Go.Shelf
attribute [local go_sem] Oper.semAt_some iF gH gS fX
theorem yX{S:Nat->Prop}{w w':World}{g o:Nat}{v:Value}(hc:Chg S w w')(h:w.cell? ⟨g,o,none⟩=some v)(hn:¬S g):w'.cell? ⟨g,o,none⟩=some v:=by
 rw[<-h]
 have:=hc.block g (bA _ _ h) hn
 unfold World.cell?
 simp only[this]
theorem jU.nocell{w:World}{b g o:Nat}{p:Int->Prop}{v:Value}(h:jU w b p)(hc:w.cell? ⟨g,o,none⟩=some v):g≠b:=by
 obtain⟨L,h1,_⟩:=h
 exact oB.nocell h1 hc
theorem oR.chg{w w':World}{b n:Nat}{a:Option Addr}{f:Nat->List Int}{p:Int->Prop}(h:oR w a n f)(hc:Chg (λj=>j=b) w w')(hb:jU w b p):oR w' a n f:=λk hk=>by
 obtain⟨g,o,a',c',e,h1,h2⟩:=h k hk
 refine⟨g,o,a',c',e,yX hc h1 (hb.nocell h1),h2.1,h2.2.1,λj hj=>?_⟩
 obtain⟨g2,o2,e2,h3,h4⟩:=h2.2.2 j hj
 exact⟨g2,o2,e2,yX hc h3 (hb.nocell h3),h4⟩
def C9(w:World)(b:Nat)(q:Int->Prop)(e:Ending)(w':World):Prop:=e=.returned (.tuple #[])/\jU w' b q/\Chg (λj=>j=b) w w'
theorem lR{w w':World}{b:Nat}(h:w.grownBy w' (some b)):Chg (λj=>j=b) w w':=(Chg.refl _ w).grown h λk e=>by injection e with e;exact .inl e.symm
theorem KY(h:CI)(bs:List iA)(C b:Nat)(p:Int->Prop)(ra:Option Addr)(n rc:Nat)(hs:List NA)(w:World)(hb:jU w b p)(hC:w.cell? ⟨C,0,none⟩=some (.slice h.lv.ia h.bn h.lv.ic))
  (hl:oR w h.lv.ia h.bn (vP (gN bs))) (hr:tI 5 csR w ra n hs) (hx:∀y∈hs,(0<=y.r.e.to/\y.r.e.to<h.bn)/\(∃a n c,y.lv=.slice a n c)/\∃a n c,y.en=.slice a n c):
  Calls Tryz.prog 88 #[.pointer (some ⟨C,0,none⟩),.map (some b),.slice ra n rc] w (C9 w b λy=>p y\/y∈rR bs (hs.map (·.r))):=by
 have HB:=ac hb
 have HC:=ac hC
 have HL:=ac hl
 have HR:=ac hr
 have HX:=ac hx
 have hn:=hr.2.1
 have HCB:Hid (C≠b):=hb.nocell hC
 clear hb hC hl hr hx
 go_enter Tryz.func88,Tryz.ntmps88
 go_wp2
 go_loopw [7,10] (λ_ q wr=>∃k:Nat,q=.int .i64 k/\k<=n/\Hid (jU wr b λy=>p y\/y∈rR bs ((hs.take k).map (·.r)))/\Hid (Chg (λj=>j=b) w wr)) (λ_ q _=>n-(intOf q).toNat)
 case atStart=>exact⟨0,rfl,by omega,HB.out.congr λy=>by simp[rR],Chg.refl _ _⟩
 case round=>
  obtain⟨k,rfl,hk,HV,HG⟩:=hrel;by_cases hlt:k<n
  .obtain⟨x,hxk⟩:∃x,hs[k]? =some x:=⟨_,ah (by rw[HR.out.1];exact hlt)⟩
   obtain⟨g,o2,rfl,hcs⟩:=HR.out.2.2 k x hxk;obtain⟨⟨t0,t1⟩,⟨a1,n1,k1,t2⟩,⟨a2,n2,k2,t3⟩⟩:=HX.out x (aK hxk);have HXK:=ac hxk;have cc:∀j,j<5->∃v,(csR x)[j]? =some v/\wr.cell? ⟨g,o2+k*5+j,none⟩=some v:=λj hj=>by
    have h1:=hcs j hj;have h2:(csR x)[j]? =some ((csR x)[j]'(by rw[RB];exact hj)):=ah _;refine⟨_,h2,yX HG.out (h1.trans h2) (HB.out.nocell (h1.trans h2))⟩
   obtain⟨⟨⟨fr,arm,tx⟩,lv,en⟩,lvv,env⟩:=x;have c0:wr.cell? ⟨g,o2+k*5,none⟩=some (.int .i64 fr):=by obtain⟨v,h1,h2⟩:=cc 0 (by omega);cases h1;exact h2
   have c1:wr.cell? ⟨g,o2+k*5+1,none⟩=some (.int .i64 arm):=by obtain⟨v,h1,h2⟩:=cc 1 (by omega);cases h1;exact h2
   have c2:wr.cell? ⟨g,o2+k*5+2,none⟩=some (.int .i64 tx):=by obtain⟨v,h1,h2⟩:=cc 2 (by omega);cases h1;exact h2
   have c3:wr.cell? ⟨g,o2+k*5+3,none⟩=some lvv:=by obtain⟨v,h1,h2⟩:=cc 3 (by omega);cases h1;exact h2
   have c4:wr.cell? ⟨g,o2+k*5+4,none⟩=some env:=by obtain⟨v,h1,h2⟩:=cc 4 (by omega);cases h1;exact h2
   simp only at t0 t1 t2 t3;subst t2 t3;obtain⟨c,rfl⟩:∃c:Nat,tx=(c:Int):=⟨tx.toNat,by omega⟩
   clear cc hcs hxk;go_upto_region 3 with (fail)
   generalize hw1:World.alloc wr _=w1;have hb1:Below wr.heap.size wr w1:=by rw[<-hw1];exact fD _ _
   have hr1:w1.heap[wr.heap.size]? =some (.cells (csR ⟨⟨⟨fr,arm,c⟩,lv,en⟩,.slice a1 n1 k1,.slice a2 n2 k2⟩).toArray 254 (0,0)):=by rw[<-hw1];exact ae _ _
   have HV1:Hid (jU w1 b λy=>p y\/y∈rR bs ((hs.take k).map (·.r))):=HV.out.kept (hb1.block b HV.out.lt);have HG1:Hid (Chg (λj=>j=b) w w1):=HG.out.of_ext hb1;have hc1:w1.cell? ⟨C,0,none⟩=some (.slice h.lv.ia h.bn h.lv.ic):=yX HG1.out HC.out HCB.out;have hn1:Nonempty (fL w1):=⟨⟨w1,ag _ _⟩⟩
   have hl1:oR w1 h.lv.ia h.bn (vP (gN bs)):=HL.out.chg HG1.out HB.out;obtain⟨g3,o3,a3,n3,e3,hcell3,hints3⟩:=hl1 c (by omega);have g1:∀n:fL w1,n.val.cell? ⟨C,0,none⟩=some (.slice (some ⟨g3,o3,none⟩) h.bn h.lv.ic):=λn=>fL.cell (by rw[<-e3];exact hc1) n;have g2:∀n:fL w1,n.val.cell? ⟨wr.heap.size,2,none⟩=some (.int .i64 (c:Int)):=λn=>fL.cell (cR hr1 rfl) n;have g3':∀n:fL w1,n.val.cell? ⟨g3,o3+c,none⟩=some (.slice a3 (vP (gN bs) c).length n3):=λn=>fL.cell hcell3 n;have g4:∀n:fL w1,C<n.val.heap.size:=λn=>bw (bA _ _ hc1) n.ext.size;have g5:∀n:fL w1,wr.heap.size<n.val.heap.size:=λn=>bw (fE hr1) n.ext.size;have HI3:=ac hints3;have HE:Hid (∀y,y∈rR bs ((hs.take (k+1)).map (·.r))↔y∈rR bs ((hs.take k).map (·.r))\/y∈vP (gN bs) c):=λy=>by
    rw[bL,HXK.out];simp[rR]
   clear hw1 hb1 hr1 hc1 hl1 e3 hcell3 hints3 c0 c1 c2 c3 c4;refine jC (λw'=>∃n':fL w1,w'=n'.val) [(0,11,some (11,false))] (by kernel_rfl) (by kernel_rfl) ⟨⟨_,gB (ag _ _) 1⟩,rfl⟩ ?_;simp only[lS,ap,aD,am,aw]
   repeat (go_big_quiet_step (fail))
   refine aq ?_;refine fR rfl rfl ?_;clear g1 g2 g3' g4 g5;go_simp;refine(oI b _ a3 _ n3 (vP (gN bs) c) w1.drew (show jU w1.drew b _ from HV1.out) (show iJ w1.drew a3 _ _ from HI3.out)).mono ?_;rintro e w2 ⟨rfl,hv2,hg2⟩;have HV2:=ac hv2;have HG2:Hid (Chg (λj=>j=b) w w2):=HG1.out.grown (row:=some b) ⟨hg2.os,hg2.tape,hg2.output,hg2.size,hg2.block⟩ λk e=>by injection e with e;exact .inl e.symm
   clear hv2 hg2;refine bR ?_;go_wp2
   go_roundw
   case rel=>exact⟨k+1,by go_num,by omega,HV2.out.congr λy=>by rw[HE.out,eO],HG2⟩
   case measure=>simp[intOf];omega
  .obtain rfl:k=n:=by omega
   go_wp2
   go_end0
   exact⟨rfl,HV.out.congr λy=>by rw[bC (by rw[HR.out.1];exact aj _)],HG.out⟩
end

section
open Go.RowKit Go.Shelf
attribute [local go_sem] Oper.semAt_some iF gH gS fX
def mN{α:Type}(l:List α):Nat->List (Nat×α)
 |0=> []
 |k+1=>match l[k]? with
  |some r=>(k,r) :: mN l k
  |none=>mN l k
theorem sH{α:Type}{l:List α}{k:Nat}{r:α}(h:l[k]? =some r):mN l (k+1)=(k,r) :: mN l k:=by
 show(match l[k]? with|some r=>(k,r) :: mN l k|none=>mN l k)=_
 rw[h]
theorem YN(a:Option Addr)(n c:Nat)(w:World):Calls Tryz.prog 146 #[.slice a n c] w λe w'=>e=.returned (.func (.func 221) #[] #[.pointer (some ⟨w.heap.size,0,none⟩)])/\w'=w.alloc (.cells #[.slice a n c] 115):=by
 go_enter Tryz.func146,Tryz.ntmps146
 go_wp2
 go_ret
 exact⟨rfl,rfl⟩
theorem NJ(args:Array Value)(w:World):(callFunc 221 args).run Tryz.prog w=.ok (.enter 221 args) w:=dK Tryz.func221 (by kernel_rfl) rfl args w
def uZ(x:Nat×lP):Array Value:=#[.int .i64 (x.1:Int),NV x.2]
theorem NN(G:Nat)(a:Option Addr)(n c:Nat)(rs:List lP)(hn:n<=17592186044416):uU Tryz.prog 221 #[.pointer (some ⟨G,0,none⟩)] uZ (mN rs n) (λW=>W.cell? ⟨G,0,none⟩=some (.slice a n c)/\tC W a n rs):=by
 intro l K Kx W hK hKx hInv hY h0
 refine eK Tryz.func221 rfl trivial ?_ rfl
 simp only[Tryz.ntmps221,bd,bk,bx,Nat.reduceAdd,Nat.reduceSub,bF,bG,bV,bN,bD,bU]
 have HY:=ac hY
 have HI:=ac hInv
 have hc0:=(hInv _ _ h0).1
 have H0:Hid (K (mN rs n) W):=h0
 clear hY hInv hK hKx h0
 gi_wp2
 gi_loopw [3] (λi wr=>∃s:Nat,s<=n/\i=.int .i64 ((s:Int)-1)/\Hid (K (mN rs s) wr)) (λi _=>(intOf i+1).toNat)
 case atStart=>exact⟨n,by omega,rfl,H0.out⟩
 case round=>
  obtain⟨s,hs,rfl,HK⟩:=hrel;clear hc0 H0;obtain⟨hc,hE⟩:=HI.out _ _ HK.out;by_cases hlt:0<s
  .obtain⟨k,rfl⟩:∃k:Nat,s=k+1:=⟨s-1,by omega⟩
   have hkn:k<n:=by omega
   obtain⟨r,b,o,hr,hok,rfl,c0,c1,c2,c3,c4,c5,c6,c7⟩:=hE.cells hkn;have hst:=sH hr;rw[hst] at HK;obtain⟨fn,tmps,assign,body,hy,hR⟩:=HY.out ((k,r) :: mN rs k) (k,r) wr rfl HK.out;unfold uZ at hy;have hT:nxL ((k,r) :: mN rs k) (k,r)=mN rs k:=rfl;rw[hT] at hR;have HR2:=ac hR;rw[show(((k+1:Nat):Int)-1)=(k:Int) by omega];clear hE hr hok hst hT hR HK
   gi_wp2
   refine HR2.out.mono ?_;rintro e W' (⟨rfl,hJ'⟩|⟨rfl,hX'⟩)
   .have HK1:=ac hJ';clear hJ' hy HR2
    gi_wp2
    go_roundw
    case rel=>exact⟨k,by omega,rfl,HK1⟩
    case measure=>simp[intOf]
   .have HX:=ac hX';clear hX' hy HR2
    gi_wp2
    exact aR (v:=.tuple #[]) (by simp[results,Tryz.results221,go_sem]) rfl ⟨⟨_,rfl⟩,Or.inr HX.out⟩
  .obtain rfl:s=0:=by omega
   have hneg:((0:Nat):Int)-1<0:=by omega
   gi_wp2
   go_end0
   exact⟨⟨_,rfl⟩,Or.inl ⟨_,rfl,HK.out⟩⟩
theorem YO(a:Option Addr)(n c:Nat)(w:World):Calls Tryz.prog 141 #[.slice a n c] w λe w'=>e=.returned (.func (.func 218) #[] #[.pointer (some ⟨w.heap.size,0,none⟩)])/\w'=w.alloc (.cells #[.slice a n c] 23):=by
 go_enter Tryz.func141,Tryz.ntmps141
 go_wp2
 go_ret
 exact⟨rfl,rfl⟩
theorem NK(args:Array Value)(w:World):(callFunc 218 args).run Tryz.prog w=.ok (.enter 218 args) w:=dK Tryz.func218 (by kernel_rfl) rfl args w
def IQ(x:Nat×iA):Array Value:=#[.int .i64 (x.1:Int),(λb:iA=>IE b.h) x.2]
theorem NO(G:Nat)(a:Option Addr)(n c:Nat)(rs:List iA)(hn:n<=17592186044416):uU Tryz.prog 218 #[.pointer (some ⟨G,0,none⟩)] IQ (mN rs n) (λW=>W.cell? ⟨G,0,none⟩=some (.slice a n c)/\lY W a n rs):=by
 intro l K Kx W hK hKx hInv hY h0
 refine eK Tryz.func218 rfl trivial ?_ rfl
 simp only[Tryz.ntmps218,bd,bk,bx,Nat.reduceAdd,Nat.reduceSub,bF,bG,bV,bN,bD,bU]
 have HY:=ac hY
 have HI:=ac hInv
 have hc0:=(hInv _ _ h0).1
 have H0:Hid (K (mN rs n) W):=h0
 clear hY hInv hK hKx h0
 gi_wp2
 gi_loopw [3] (λi wr=>∃s:Nat,s<=n/\i=.int .i64 ((s:Int)-1)/\Hid (K (mN rs s) wr)) (λi _=>(intOf i+1).toNat)
 case atStart=>exact⟨n,by omega,rfl,H0.out⟩
 case round=>
  obtain⟨s,hs,rfl,HK⟩:=hrel;clear hc0 H0;obtain⟨hc,hE⟩:=HI.out _ _ HK.out;by_cases hlt:0<s
  .obtain⟨k,rfl⟩:∃k:Nat,s=k+1:=⟨s-1,by omega⟩
   have hkn:k<n:=by omega
   obtain⟨r,b,o,hr,hok,rfl,c0,c1,c2,c3,c4⟩:=mJ hE hkn;have hst:=sH hr;rw[hst] at HK;obtain⟨fn,tmps,assign,body,hy,hR⟩:=HY.out ((k,r) :: mN rs k) (k,r) wr rfl HK.out;unfold IQ at hy;have hT:nxL ((k,r) :: mN rs k) (k,r)=mN rs k:=rfl;rw[hT] at hR;have HR2:=ac hR;rw[show(((k+1:Nat):Int)-1)=(k:Int) by omega];clear hE hr hok hst hT hR HK
   gi_wp2
   refine HR2.out.mono ?_;rintro e W' (⟨rfl,hJ'⟩|⟨rfl,hX'⟩)
   .have HK1:=ac hJ';clear hJ' hy HR2
    gi_wp2
    go_roundw
    case rel=>exact⟨k,by omega,rfl,HK1⟩
    case measure=>simp[intOf]
   .have HX:=ac hX';clear hX' hy HR2
    gi_wp2
    exact aR (v:=.tuple #[]) (by simp[results,Tryz.results218,go_sem]) rfl ⟨⟨_,rfl⟩,Or.inr HX.out⟩
  .obtain rfl:s=0:=by omega
   have hneg:((0:Nat):Int)-1<0:=by omega
   gi_wp2
   go_end0
   exact⟨⟨_,rfl⟩,Or.inl ⟨_,rfl,HK.out⟩⟩
end
end Go.Proofs.YtbknbcmppdglhaaGreatDoor
