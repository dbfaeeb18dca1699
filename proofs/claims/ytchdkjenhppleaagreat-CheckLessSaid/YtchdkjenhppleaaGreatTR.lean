/-
 What is read,defined,needed are variables;ir.set.past.
-/
import Derived.Test.YtchdkjenhppleaaGreatA0
import Derived.Test.YtchdkjenhppleaaGreatMC
import Derived.Test.YtchdkjenhppleaaGreatSF
import Derived.Test.YtchdkjenhppleaaGreatKD
import Derived.Test.YtchdkjenhppleaaGreatFM
import Derived.Test.YtchdkjenhppleaaGreatTJ
namespace Go.Proofs.YtchdkjenhppleaaGreat
set_option linter.unusedSimpArgs false
set_option linter.unusedVariables false
set_option linter.unusedSectionVars false
set_option maxRecDepth 100000
set_option maxHeartbeats 40000000
section
open Go.RowKit
theorem OE{b:Bool}{x:Int}(h:oZ b x=true):x=0\/iG x=true:=by
 grind[oZ]
theorem NY{i:lQ}(h:iQ i=true):(∀x∈i.args,iG x=true)/\(i.a=0\/iG i.a=true)/\(i.b=0\/iG i.b=true)/\(i.dst=0\/iG i.dst=true):=by
 unfold iQ at h
 simp only at h
 split at h
 .cases h
 .split at h
  .simp only[az,mZ,List.any_cons,List.any_nil,Bool.or_false,cm,dt,bne_eq_false_iff_eq,dZ,Bool.not_eq_true,Bool.not_eq_false'] at h
   grind[OE]
  .split at h
   .cases h
   .grind[OE]
theorem sR{x:Int}:iG x=true↔1<=x/\x<=200:=by simp[iG]
theorem IQ{i:lQ}{x:Int}(h:x∈gA i):1<=x/\x<=200:=by
 unfold gA at h
 split at h
 .rename_i hi
  obtain⟨h1,h2,h3,_⟩:=NY hi;rcases bh.1 h with h|h
  .grind[sR]
  grind[sR]
 grind
theorem nL(i:lQ):0<=fG i/\fG i<=200:=by
 unfold fG
 split
 .rename_i hi
  rcases(NY hi).2.2.2 with h|h
  .omega
  grind[sR]
 simp
theorem IY{t:fC}{x:Int}(h:x∈mL t):1<=x/\x<=200:=by
 unfold mL at h
 split at h
 .rename_i hb
  simp only[az,bne_iff_ne,ne_eq] at hb;have ht:=hb.1;unfold jK at ht
  repeat' split at ht
  .grind
  .grind[sR]
  .simp_all[sR]
  grind
 grind
def CH(f:Nat->Bool)(j:Nat):Nat->Bool:=λk=>if k=j then true else f k
def oG:(Nat->Bool)->List iO->fC->Bool
 |f,[],t=>GF f (mL t)
 |f,r :: l,t=>GF f (gA r.d)&&oG (CH f (fG r.d).toNat) l t
def mQ(f:Nat->Bool)(rs:List iO):Nat->Bool:=rs.foldl (λf r=>CH f (fG r.d).toNat) f
theorem IR(f:Nat->Bool)(rs:List iO)(k:Nat)(r:iO)(h:rs[k]? =some r):mQ f (rs.take (k+1))=CH (mQ f (rs.take k)) (fG r.d).toNat:=by
 grind[List.take_add_one,mQ]
theorem XC(f:Nat->Bool)(rs:List iO)(t:fC)(k:Nat)(r:iO)(h:rs[k]? =some r):oG f (rs.drop k) t=(GF f (gA r.d)&&oG (CH f (fG r.d).toNat) (rs.drop (k+1)) t):=by
 grind[List.drop_eq_getElem_cons,oG]
def PJ(w:World)(b:jU)(f:Nat->Bool)(W:World):Prop:=
 W.heap[w.heap.size]? =some (vsO f)/\W.heap[w.heap.size+1]? =some (kP b)/\(∃h,W.heap[w.heap.size+1+1]? =some (vsO h))/\Below w.heap.size w W
theorem PJ.ext{w:World}{b:jU}{f:Nat->Bool}{W W':World}(h:PJ w b f W)(hb:Below W.heap.size W W'):PJ w b f W':=by
 obtain⟨h1,h2,⟨g,h3⟩,h4⟩:=h
 refine⟨eB hb h1,eB hb h2,⟨g,eB hb h3⟩,h4.trans (hb.mono h4.size)⟩
theorem vI:(Tryz.prog.info? 62).map (·.size)=some 8:=by kernel_rfl
theorem VV(f:Nat->Bool)(b:jU)(rs:List iO)(w:World)(ht:rM b.t)(hI:rN w b.ia b.n rs)(hna:∀r∈rs,r.na<=1000000):
  Calls Tryz.prog 112 #[.agg (fZ f),AB b] w λe w'=>∃h,e=.returned (.tuple #[.agg (fZ h),.bool (oG f rs b.t)])/\Below w.heap.size w w':=by
 have HT:=ac ht
 have HI:=ac hI
 have HNA:=ac hna
 have HL:=ac hI.1.1
 have hn:=hI.1.2.1
 clear ht hI hna
 go_enter Tryz.func112,Tryz.ntmps112
 go_upto_region 1 with (fail)
 obtain⟨W,hW⟩:∃W,W=((w.alloc (vsO f)).alloc (kP b)).alloc (vsO λ_=>false):=⟨_,rfl⟩
 rw[lN,<-hW]
 have hJ:PJ w b f W:=by
  rw[hW];refine⟨?_,?_,⟨λ_=>false,?_⟩,(((ao _ w).alloc (aw _) _).alloc (by simp) _).alloc (by simp;omega) _⟩
  .rw[aJ _ _ _ (by simp;omega),aJ _ _ _ (by simp)];exact ai _ _
  .rw[aJ _ _ _ (by simp)];have:=ai (w.alloc (vsO f)) (kP b);simpa using this
  .have:=ai ((w.alloc (vsO f)).alloc (kP b)) (vsO λ_=>false);simpa using this
 have HJ:=ac hJ
 have b0:=cK 0 hJ.2.1 rfl
 have hl1:=eT hJ.2.1
 clear hW hJ
 go_wp2
 clear b0 hl1
 go_loopw [11] (λi wr=>∃k:Nat,i=.int .i64 k/\k<=b.n/\Hid (PJ w b (mQ f (rs.take k)) wr)/\Hid (oG f rs b.t=oG (mQ f (rs.take k)) (rs.drop k) b.t)) (λi _=>b.n-(intOf i).toNat)
 case atStart=>exact⟨0,rfl,by omega,HJ.out,rfl⟩
 case round=>
  obtain⟨k,rfl,hk,HP,HE⟩:=hrel;clear HJ;by_cases hlt:k<b.n
  .obtain⟨r,bb,oo,hr,hok,hia,c0,c1,c2,c3,c4,c5,c6,c7⟩:=(HI.out.ext HP.out.2.2.2).cells hlt;have HST:=ac (IR f rs k r hr);have HDR:=ac (XC (mQ f (rs.take k)) rs b.t k r hr);have hnr:=HNA.out r (aK hr);generalize mQ f (rs.take k)=fk at *;rw[hia];have hlt':(k:Int)<(b.n:Int):=by omega
   have HOK:=ac hok;clear hr hok;go_upto_region 4 with (fail)
   obtain⟨Wi,hWi⟩:∃Wi,Wi=wr.alloc (zY r.d r.aa r.na r.ca):=⟨_,rfl⟩
   have hri:Wi.heap[wr.heap.size]? =some (zY r.d r.aa r.na r.ca):=by rw[hWi];exact ai _ _
   have hbi:Below wr.heap.size wr Wi:=by rw[hWi];exact eD _ _
   rw[show wr.alloc (Obj.cells #[.int .i64 r.d.op,.int .i64 r.d.dst,.int .i64 r.d.a,.int .i64 r.d.b,.int .i64 r.d.imm,.int .i64 r.d.callee,.slice r.aa r.na r.ca,.int .i64 r.d.many] 62)=Wi from hWi.symm];have HRI:=ac hri;have HPI:=ac (HP.out.ext hbi);have HOKI:=ac (HOK.out.ext hbi);have HRD:=ac (λx hx=>IQ (i:=r.d) (x:=x) hx);obtain⟨m,hm⟩:∃m:Nat,fG r.d=(m:Int):=⟨(fG r.d).toNat,by have:=(nL r.d).1;omega⟩
   have hml:m<201:=by have:=(nL r.d).2;omega
   have HMD:=ac hm;clear hWi hri hbi c0 c1 c2 c3 c4 c5 c6 c7 hia hm HP HOK;cases hb:GF fk (gA r.d) with
   |false=>
    have HF:Hid (oG f rs b.t=false):=by rw[Hid,HE.out,HDR.out,hb];rfl
    go_wp2_with (first
     |((with_reducible show wpList _ _ _ (⟨some 15,_,_,_,_,_⟩ :: _) _ _);refine ay (o:=⟨some 15,.load 62 _,_,_,_,_⟩) rfl 62 _ rfl wr.heap.size rfl 62 _ (0,0) _ HRI.out bT rfl vI ?_)
     |(go_at_call 64
       refine(yT r.d r.aa r.na r.ca Wi HOKI.out.1 HOKI.out.2.2.2.2.1 HOKI.out.2.2.2.2.2.1 HOKI.out.2.2.2.2.2.2.1 HOKI.out.2.2.2.2.2.2.2.1 hnr).mono ?_;rintro e w1 ⟨rv,rfl,ho,hb1⟩;obtain⟨ra,rc,rfl⟩:=ho.form;have HO1:=ac ho.ints;have HP1:=ac (HPI.out.ext hb1)
       clear ho hb1)
     |(go_at_call 146
       refine(DP fk w.heap.size ra _ rc (gA r.d) w1 HP1.out.1 HO1.out (λx hx=>⟨by have:=(HRD.out x hx).1;omega,(HRD.out x hx).2⟩)).mono ?_;rw[hb];rintro e w2 ⟨rfl,hb2⟩;have HP2:=ac (HP1.out.ext hb2)
       clear hb2)
     |((with_reducible show wpList _ _ _ (⟨some 19,_,_,_,_,_⟩ :: _) _ _);refine ay (o:=⟨some 19,.load 179 _,_,_,_,_⟩) rfl 179 _ rfl w.heap.size rfl 179 _ (0,0) _ HP2.out.1 bV rfl (by rw[fT];exact kW) ?_)
     |(refine aU rfl 179 _ _ rfl (w.heap.size+1+1) (fZ fk) rfl rfl 179 _ HP2.out.2.2.1.choose_spec (by rw[fT];exact kW) (by rw[fT,fT]) (kU _) ?_))
    have hload:=vK (aG _ _ _ (fZ fk) _ _ HP2.out.2.2.1.choose_spec);refine aD (v:=.tuple #[.agg (fZ fk),.bool false]) (by simp[results,Tryz.results112,asAddr,Act.put,hload]) rfl ?_;rw[HF.out];exact⟨_,rfl,aA HP2.out.2.2.2 (by omega) _⟩
   |true=>
    have HF:Hid (oG f rs b.t=oG (CH fk m) (rs.drop (k+1)) b.t):=by rw[Hid,HE.out,HDR.out,hb,HMD.out];rfl
    have HS1:Hid (mQ f (rs.take (k+1))=CH fk m):=by rw[Hid,HST.out,HMD.out];rfl
    go_wp2_with (first
     |((with_reducible show wpList _ _ _ (⟨some 15,_,_,_,_,_⟩ :: _) _ _);refine ay (o:=⟨some 15,.load 62 _,_,_,_,_⟩) rfl 62 _ rfl wr.heap.size rfl 62 _ (0,0) _ HRI.out bT rfl vI ?_)
     |(go_at_call 64
       refine(yT r.d r.aa r.na r.ca Wi HOKI.out.1 HOKI.out.2.2.2.2.1 HOKI.out.2.2.2.2.2.1 HOKI.out.2.2.2.2.2.2.1 HOKI.out.2.2.2.2.2.2.2.1 hnr).mono ?_;rintro e w1 ⟨rv,rfl,ho,hb1⟩;obtain⟨ra,rc,rfl⟩:=ho.form;have HO1:=ac ho.ints;have HP1:=ac (HPI.out.ext hb1);have HR1:=ac (eB hb1 HRI.out);have HK1:=ac (HOKI.out.ext hb1)
       clear ho hb1)
     |(go_at_call 146
       refine(DP fk w.heap.size ra _ rc (gA r.d) w1 HP1.out.1 HO1.out (λx hx=>⟨by have:=(HRD.out x hx).1;omega,(HRD.out x hx).2⟩)).mono ?_;rw[hb];rintro e w2 ⟨rfl,hb2⟩;have HP2:=ac (HP1.out.ext hb2);have HR2:=ac (eB hb2 HR1.out);have HK2:=ac (HK1.out.ext hb2)
       clear hb2)
     |((with_reducible show wpList _ _ _ (⟨some 20,_,_,_,_,_⟩ :: _) _ _);refine ay (o:=⟨some 20,.load 62 _,_,_,_,_⟩) rfl 62 _ rfl wr.heap.size rfl 62 _ (0,0) _ HR2.out bT rfl vI ?_)
     |(go_at_call 67
       refine(vX r.d r.aa r.na r.ca w2 HK2.out.1 HK2.out.2.2.2.2.1 HK2.out.2.2.2.2.2.1 HK2.out.2.2.2.2.2.2.1 HK2.out.2.2.2.2.2.2.2.1).mono ?_;rw[HMD.out];rintro e w3 ⟨rfl,hb3⟩;have HP3:=ac (HP2.out.ext hb3);have hcell:=oL HP3.out.1 m hml;have hfr:=sD HP3.out.1 m;have hl3:=eT HP3.out.1;have hmi:(m:Int)<201:=(by omega)
       clear hb3))
    have hP4:PJ w b (CH fk m) (w3.setCell ⟨w.heap.size,m,none⟩ (.bool true)):=by
     obtain⟨h1,h2,⟨h,h3⟩,h4⟩:=HP3.out;refine⟨uF h1 m true λj _=>rfl,?_,⟨h,?_⟩,h4.setCell (aw _) _⟩
     .rw[bf _ _ _ _ (by simp)];exact h2
     .rw[bf _ _ _ _ (by simp;omega)];exact h3
    go_roundw
    case rel=>exact⟨k+1,by go_num,by omega,by rw[Hid,HS1.out];exact hP4,by rw[Hid,HS1.out];exact HF.out⟩
    case measure=>simp[intOf];omega
  .obtain rfl:k=b.n:=by omega
   have HE2:Hid (oG f rs b.t=GF (mQ f (rs.take b.n)) (mL b.t)):=by
    rw[Hid,HE.out,cO (by rw[HL.out];exact aw _)];rfl
   generalize mQ f (rs.take b.n)=fk at *;have HNV:=ac (λx hx=>IY (t:=b.t) (x:=x) hx);obtain⟨wp,hwp⟩:∃x,x=wr:=⟨_,rfl⟩
   go_upto_region 8 with (fail)
   have q1:∀w',(∃m:fP (PJ w b fk),w'=m.val)->w'.heap[w.heap.size]? =some (vsO fk):=λw' ⟨m,e⟩=>by rw[e];exact m.prop.1
   have g1:∀m:fP (PJ w b fk),m.val.cell? ⟨w.heap.size+1,1,none⟩=some (.int .i64 b.t.kind):=λm=>cR m.prop.2.1 rfl;have g2:∀m:fP (PJ w b fk),m.val.cell? ⟨w.heap.size+1,2,none⟩=some (.int .i64 b.t.a):=λm=>cR m.prop.2.1 rfl;have g3:∀m:fP (PJ w b fk),m.val.cell? ⟨w.heap.size+1,3,none⟩=some (.int .i64 b.t.t0):=λm=>cR m.prop.2.1 rfl;have g4:∀m:fP (PJ w b fk),m.val.cell? ⟨w.heap.size+1,4,none⟩=some (.int .i64 b.t.t1):=λm=>cR m.prop.2.1 rfl;have hP0:PJ w b fk wr.drew:=HP.out.ext (eS (ao _ _) 1);obtain⟨v0,hv0,hP0⟩:∃v0,wr.drew=v0/\PJ w b fk v0:=⟨_,rfl,hP0⟩
   have hne:Nonempty (fP (PJ w b fk)):=KK hP0;have hst:∀W',PJ w b fk W'->PJ w b fk (W'.setRow (w.heap.size+1+1) (fZ fk))/\(W'.setRow (w.heap.size+1+1) (fZ fk)).heap[w.heap.size+1+1]? =some (vsO fk):=λW' h=>by
    obtain⟨h1,h2,⟨h,h3⟩,h4⟩:=h;have hs:=aG _ _ _ (fZ fk) _ _ h3;refine⟨⟨?_,?_,⟨fk,hs⟩,aA h4 (by omega) _⟩,hs⟩
    .exact((aA (B:=w.heap.size+1) (g:=w.heap.size+1+1) (w0:=W') (w:=W') (ao _ _) (by omega) (fZ fk)).block w.heap.size (by omega)).trans h1
    .exact((aA (B:=w.heap.size+1+1) (g:=w.heap.size+1+1) (w0:=W') (w:=W') (ao _ _) (by omega) (fZ fk)).block (w.heap.size+1) (by omega)).trans h2
   refine iZ (λw'=>∃m:fP (PJ w b fk),w'=m.val) (by kernel_rfl) ?_;rw[hv0];refine eK 0 3 (by kernel_rfl) (mN hP0) ?_;simp only[ak,aq,aj,ap]
   repeat (first
    |(refine eP (o:=⟨some 24,.load 179 _,_,_,_,_⟩) (by rfl) 179 _ rfl w.heap.size rfl 179 _ (0,0) _ q1 bV rfl (by rw[fT];exact kW) ?_;simp only[Act.put,ae,ah,ag])
    |go_big_quiet_step (fail))
   refine ar ?_;clear q1 g1 g2 g3 g4 hv0;have HST:=ac hst;have HP0:=ac hP0;clear hst hP0 hne;refine eO 3 (by kernel_rfl) ?_;refine eE rfl rfl ?_;go_simp;refine(SK b.t v0 HT.out).mono ?_;rintro e v1 ⟨rv,rfl,ho,hb1⟩;obtain⟨ra,rc,rfl⟩:=ho.form;have HO1:=ac ho.ints;have HP1:=ac (HP0.out.ext hb1);clear ho hb1;refine⟨Or.inr (mN HP1.out),?_⟩
   try simp only[Act.put,ae,ah,ag]
   refine eO 4 (by kernel_rfl) ?_;refine eE rfl rfl ?_;go_simp;refine(DP fk w.heap.size ra _ rc (mL b.t) v1 HP1.out.1 HO1.out (λx hx=>⟨by have:=(HNV.out x hx).1;omega,(HNV.out x hx).2⟩)).mono ?_;rintro e v2 ⟨rfl,hb2⟩;have HP2:=ac (HP1.out.ext hb2);clear hb2;refine⟨Or.inr (mN HP2.out),?_⟩
   try simp only[Act.put,ae,ah,ag]
   refine eO 5 (by kernel_rfl) ?_;refine eE rfl rfl ?_;refine aE 179 _ _ rfl (w.heap.size+1+1) (fZ fk) rfl rfl 179 _ HP2.out.2.2.1.choose_spec (by rw[fT];exact kW) (by rw[fT,fT]) (kU _) ?_;have HP3:=ac (HST.out v2 HP2.out);refine⟨Or.inr (mN HP3.out.1),?_⟩
   try simp only[Act.put,ae,ah,ag]
   refine eK 6 1 (by kernel_rfl) (mN HP3.out.1) ?_;simp only[ak,aq,aj,ap]
   repeat (go_big_quiet_step (fail))
   refine ar ?_;refine fJ (by kernel_rfl) ?_;generalize v2.setRow (w.heap.size+1+1) (fZ fk)=v3 at *;go_wp2;have hload:=vK HP3.out.2;refine aD (v:=.tuple #[.agg (fZ fk),.bool (GF fk (mL b.t))]) (by simp[results,Tryz.results112,asAddr,Act.put,hload]) rfl ?_;rw[HE2.out];exact⟨_,rfl,HP3.out.1.2.2.2⟩
end

section
open Go.RowKit Go.Shelf
attribute [local go_sem] Oper.semAt_some iB fS gP fH
theorem XY(w:World)(f:Nat->Bool)(b:Nat)(hb:b<200):(Instr.index 227 (.agg (eV f)) (.int .i64 (b:Int))).run Tryz.prog w=.ok (.bool (f b)) w:=by
 have hz:(Go.sizeOf 4).run Tryz.prog w=.ok 1 w:=by kernel_rfl
 have hb2:(0:Int)<=(b:Int)/\(b:Int)<((200:Nat):Int):=by omega
 have h1:=uM (eV f) b _ w (nJ f b hb)
 simp only[Instr.index,asIntOf,bu,cY,bp,aZ (w:=w) bg,aX hb2,hz]
 simpa using h1
theorem RW(d:lX)(ts:List fC)(f:Nat->Bool)(P S:Nat)(x:Nat)(hx:x<200)(W:World)(hP:W.heap[P]? =some (oD d))(hS:W.heap[S]? =some (jZ f))(hok:lP W d ts)(hg:qC ts=true)(hcf:nI f)(hf:x<d.bn):
  Calls Tryz.prog 181 (#[.int .i64 (x:Int)]++ #[.pointer (some ⟨P,0,none⟩),.pointer (some ⟨S,0,none⟩)]) W λe W'=>e=.returned (.bool (kK ts x f x))/\Below W.heap.size W W':=by
 show Calls Tryz.prog 181 #[.int .i64 (x:Int),.pointer (some ⟨P,0,none⟩),.pointer (some ⟨S,0,none⟩)] W _
 have HP:=ac hP
 have HS:=ac hS
 have HOK:=ac hok
 have HG:=ac hg
 have HF:=ac hf
 have HCF:=ac hcf
 clear hP hS hok hg hf hcf
 have hix:=λw=>XY w (kK ts x f) x hx
 go_enter Tryz.func181,Tryz.ntmps181
 go_wp2_with (first
  |(refine ay (o:=⟨some 5,.load 201 _,_,_,_,_⟩) rfl 201 _ rfl P rfl 201 _ (0,0) _ HP.out aS rfl eX ?_)
  |(refine ay (o:=⟨some 7,.load 227 _,_,_,_,_⟩) rfl 227 _ rfl S rfl 227 _ (0,0) _ HS.out bg rfl (by rw[fA];exact fD) ?_)
  |(go_at_call 180
    refine(NV d ts x f W hx HOK.out HG.out HCF.out λ_=>HF.out).mono ?_;rintro e w2 ⟨rfl,hb⟩;have HB:=ac hb
    clear hb))
 go_ret
 exact⟨rfl,HB.out⟩
theorem MB(args:Array Value)(w:World):(callFunc 181 args).run Tryz.prog w=.ok (.enter 181 args) w:=cQ Tryz.func181 (by kernel_rfl) rfl args w
theorem AG(d:lX)(ts:List fC)(f:Nat->Bool)(a:Option Addr)(n c:Nat)(bs:List Int)(w:World)(hI:fR w a n bs)(hbs:∀x∈bs,0<=x/\x<d.bn)(hok:lP w d ts)(hg:qC ts=true)(hf:nI f):
  Calls Tryz.prog 173 #[gX d,.slice a n c,.agg (eV f)] w λe w'=>e=.returned (.bool (wG ts bs f))/\Below w.heap.size w w':=by
 have HI:=ac hI
 have HBS:=ac hbs
 have HOK:=ac hok
 have HG:=ac hg
 have HF:=ac hf
 clear hI hbs hok hg hf
 go_enter Tryz.func173,Tryz.ntmps173
 go_wp2_with (
  (go_at_call 119
   refine(iJ 181 #[.pointer (some ⟨w.heap.size,0,none⟩),.pointer (some ⟨w.heap.size+1,0,none⟩)] MB (λz=>kK ts z.toNat f z.toNat) a n c bs _ (λz W hz hb=>?_) (HI.out.ext ((eD _ _).alloc (by simp) _))).mono ?_
   .have hz2:=HBS.out z hz;have hbn:=HOK.out.2.1;obtain⟨q,rfl⟩:∃q:Nat,z=(q:Int):=⟨z.toNat,by omega⟩
    refine RW d ts f w.heap.size (w.heap.size+1) q (by omega) W (eB hb ?_) (eB hb (fM _ _ _ (by simp))) (HOK.out.ext (eA ((eD _ _).alloc (by simp) _) hb)) HG.out HF.out (by omega);rw[aJ _ _ _ (by simp)];exact ai _ _
   rintro e w2 ⟨rfl,hb⟩;have HB:=ac hb
   clear hb))
 go_ret
 exact⟨rfl,eA ((eD _ _).alloc (by simp) _) HB.out⟩
def ToJ(w:World)(d:lX)(f:Nat->Bool)(W:World):Prop:=
 W.heap[w.heap.size]? =some (oD d)/\W.heap[w.heap.size+1]? =some (jZ f)/\W.heap[w.heap.size+1+1]? =some (.cells #[.bool false] 4 (0,0))/\W.heap[w.heap.size+1+1+1]? =some (.cells #[.pointer (some ⟨w.heap.size+1,0,none⟩)] 262 (0,0))/\Below w.heap.size w W
theorem ToJ.steady{w:World}{d:lX}{f:Nat->Bool}{D:Nat}(hD:w.heap.size<=D):eI D (ToJ w d f):=by
 unfold ToJ
 exact(eI.block _ _ rfl).and ((eI.block _ _ rfl).and ((eI.block _ _ rfl).and ((eI.block _ _ rfl).and (eI.below (aw _) hD))))
theorem yP(d:lX)(ts:List fC)(f:Nat->Bool)(w:World)(hok:lP w d ts)(hg:qC ts=true)(hcf:nI f)(hf:∀b l,iR f=b :: l->b<d.bn):
  Calls Tryz.prog 172 #[gX d,.agg (eV f)] w λe w'=>e=.returned (.bool (iS ts f))/\Below w.heap.size w w':=by
 refine(br (n:=0)).1 ?_
 refine cA Tryz.func172 rfl trivial ?_
 simp only[Tryz.ntmps172,bL,aN,aV,Nat.reduceAdd,Nat.reduceSub,bC,bD,bM,bG,bH,bJ]
 have HOK:=ac hok
 have HG:=ac hg
 have HF:=ac hf
 have HCF:=ac hcf
 have hdn:d.bn<=200:=hok.2.1
 clear hok hg hcf hf
 gi_wp2_with (gi_at_call 178;refine(br.2 (OM _ _)).mono ?_;rintro e w' ⟨rfl,rfl⟩)
 refine EP (ps:=#[7]) (gf:=185) (lb:=#[.pointer (some ⟨w.heap.size+1+1+1,0,none⟩)]) (enc:=VQ) (l:=iR f) rfl FJ _ (FL f (w.heap.size+1+1+1) (w.heap.size+1)) (λ_=>rfl)
  (λdn r W=>Hid (dn= []/\ToJ w d f W)) (λc W=>c=.ret/\W.heap[w.heap.size+1+1]? =some (.cells #[.bool (iS ts f)] 4 (0,0))/\Below w.heap.size w W)
  (λdn r=>(eI.pure _ _).and (ToJ.steady (by simp;omega))) (λc=>(eI.pure _ _).and ((eI.block _ _ rfl).and (eI.below (aw _) (by simp;omega)))) (λdn r W h=>⟨cR h.out.2.2.2.2.1 rfl,h.out.2.2.1⟩) ?start ?round ?done ?stop
 case start=>
  refine⟨rfl,?_,?_,?_,?_,?_⟩
  .rw[aJ _ _ _ (by simp;omega),aJ _ _ _ (by simp;omega),aJ _ _ _ (by simp)];exact ai _ _
  .rw[aJ _ _ _ (by simp),aJ _ _ _ (by simp)];exact fM _ _ _ (by simp)
  .rw[aJ _ _ _ (by simp)];exact fM _ _ _ (by simp)
  .exact fM _ _ _ (by simp)
  .exact(((eD _ _).alloc (by simp) _).alloc (by simp;omega) _).alloc (by simp;omega) _
 case round=>
  rintro lp dn x r W0 hd hJ;unfold VQ
  gi_wp2
  refine⟨gO.refl _,hJ,?_⟩;clear hJ lp W0;rintro lp W0 hJ;obtain⟨rfl,j1,j2,j3,j4,jb⟩:=hJ.out;have hxl:x<200:=DW f x (by rw[hd];simp);have HXB:Hid (f x=true->x<d.bn):=λ_=>HF.out x r hd;have HE:Hid (iS ts f=eqS (kK ts x f) f):=by
   have:iR f=x :: r:=hd;simp only[Hid,iS,this]
  have HW:=ac j1;have HS:=ac j2;have HR:=ac j3;have HBW:=ac jb;clear hJ j1 j2 j3 j4 jb hd;refine wpIn_block ?_;refine wpIn_seq ?_;refine RV 6 [some 8,some 9,some 10,some 11,some 12,some 13] (by kernel_rfl) (by kernel_rfl) (by repeat (first|exact jX|refine lF ?_|refine jY ?_)) (by kernel_rfl) (jL [.val (gX d),.val (.int .i64 (x:Int)),.val (.agg (eV f)),.val (.agg (eV (kK ts x f))),.val (.agg (eV f)),.val (.bool (eqS (kK ts x f) f))]) (kC ?_) ?_ ?_
  .intro k hk;simp only[aH,a7,bW] at hk;rcases hk with rfl|rfl|rfl|rfl|rfl|rfl<;>try exact trivial
  .intro i hi ν lo hi' w1 K hB hD hK;have hcase:i=0\/i=1\/i=2\/i=3\/i=4\/i=5:=by omega
   clear hi;rcases hcase with rfl|rfl|rfl|rfl|rfl|rfl
   .clear hD;refine eJ rfl rfl ?_;simp only[zA,zB,zC,zD,zE,zF,zJ,zK,zG,zH,zI] at hK|-;refine bX 201 _ rfl w.heap.size rfl 201 _ (0,0) _ (eB hB HW.out) aS rfl eX ?_;exact hK _ _ (ao _ _) rfl
   .clear hD;refine eJ rfl rfl ?_;simp only[zA,zB,zC,zD,zE,zF,zJ,zK,zG,zH,zI] at hK|-;go_simp;exact hK _ _ (ao _ _) rfl
   .clear hD;refine eJ rfl rfl ?_;simp only[zA,zB,zC,zD,zE,zF,zJ,zK,zG,zH,zI] at hK|-;refine bX 227 _ rfl (w.heap.size+1) rfl 227 _ (0,0) _ (eB hB HS.out) bg rfl (by rw[fA];exact fD) ?_;exact hK _ _ (ao _ _) rfl
   .have e0:ν 0=(gX d):=hD 0 (by kernel_rfl);have e1:ν 1=(.int .i64 (x:Int)):=hD 1 (by kernel_rfl);have e2:ν 2=(.agg (eV f)):=hD 2 (by kernel_rfl);clear hD;refine eJ rfl rfl ?_;simp only[zA,zB,zC,zD,zE,zF,zJ,zK,zG,zH,zI,e0,e1,e2] at hK|-;go_simp;refine(NV d ts x f w1 (by omega) (HOK.out.ext (eA HBW.out hB)) HG.out HCF.out HXB.out).mono ?_;rintro e w3 ⟨rfl,hb3⟩;exact hK _ _ hb3 rfl
   .clear hD;refine eJ rfl rfl ?_;simp only[zA,zB,zC,zD,zE,zF,zJ,zK,zG,zH,zI] at hK|-;refine bX 227 _ rfl (w.heap.size+1) rfl 227 _ (0,0) _ (eB hB HS.out) bg rfl (by rw[fA];exact fD) ?_;exact hK _ _ (ao _ _) rfl
   .have e3:ν 3=(.agg (eV (kK ts x f))):=hD 3 (by kernel_rfl);have e4:ν 4=(.agg (eV f)):=hD 4 (by kernel_rfl);clear hD;refine eJ rfl rfl ?_;simp only[zA,zB,zC,zD,zE,zF,zJ,zK,zG,zH,zI,e3,e4] at hK|-;have heq:=BZ w1 (kK ts x f) f;go_simp;exact hK _ _ (ao _ _) rfl
  .intro ν lo hi w1 hB hS hI hD;have e0:ν 0=(gX d):=hS 0 (by omega);have e1:ν 1=(.int .i64 (x:Int)):=hS 1 (by omega);have e2:ν 2=(.agg (eV f)):=hS 2 (by omega);have e3:ν 3=(.agg (eV (kK ts x f))):=hS 3 (by omega);have e4:ν 4=(.agg (eV f)):=hS 4 (by omega);have e5:ν 5=(.bool (eqS (kK ts x f) f)):=hS 5 (by omega);clear hS;simp only[aj,ap,zA,zB,zC,zD,zE,zF,zJ,zK,zG,zH,zI,e0,e1,e2,e3,e4,e5];have HB1:=ac hB;clear hI hD e0 e1 e2 e3 e4 e5;have hr1:=eB HB1.out HR.out;obtain⟨hc1,hf1⟩:=cz 0 hr1 rfl;have hl1:=eT hr1;have HR1:=ac hr1;clear hr1 hB;go_wp2;refine wpIn_ret ?_;have hst:=aO w1 (w.heap.size+1+1) 0 _ _ (.bool (eqS (kK ts x f) f)) HR1.out;exact⟨(gO.ext HB1.out).trans (gO.setCell _ _ _),rfl,by rw[HE.out];simpa using hst,(eA HBW.out HB1.out).setCell (by simp;omega) _⟩
 case done=>
  rintro D W hD hJ hK;obtain⟨hl,j1,j2,j3,j4,jb⟩:=hJ.out;have HE:Hid (iS ts f=true):=by simp only[Hid,iS,hl]
  obtain⟨hc1,hf1⟩:=cz 0 j3 rfl;have hl1:=eT j3;have HB:=ac jb;have HJ3:=ac j3;clear hJ j1 j2 j3 j4 jb hl
  gi_wp2
  have hDP:D≠w.heap.size+1+1:=by simp at hD;omega
  have g:=fL W (w.heap.size+1+1) 0 (.bool true);have hK2:=fB g hK (by simp;omega);have hb2:Below w.heap.size w (W.setCell ⟨w.heap.size+1+1,0,none⟩ (.bool true)):=HB.out.setCell (by simp;omega) _;have hv2:(W.setCell ⟨w.heap.size+1+1,0,none⟩ (.bool true)).heap[w.heap.size+1+1]? =some (.cells #[.bool true] 4 (0,0)):=by
   have:=aO W (w.heap.size+1+1) 0 _ _ (.bool true) HJ3.out;simpa using this
  generalize W.setCell ⟨w.heap.size+1+1,0,none⟩ (.bool true)=W2 at *;have hb3:=(eI.below (n₀:=w.heap.size) (B:=w.heap.size) (w₀:=w) (aw _) (aw _)).put (.deferred none) (l:=D) hb2 (by simp at hD;omega) hK2 rfl;have hv3:(W2.putObj D (.deferred none)).heap[w.heap.size+1+1]? =some (.cells #[.bool true] 4 (0,0)):=(bk (by omega)).trans hv2;have hc3:=cK 0 hv3 rfl;refine⟨by simp,.inl ⟨_,_,rfl,cI hK2,?_⟩⟩;exact⟨.bool true,by simp[results,Tryz.results172,go_sem,hc3],by rw[HE.out],hb3⟩
 case stop=>
  rintro D c W hD ⟨rfl,hv,hb⟩ hK;have hv2:(W.putObj D (.deferred none)).heap[w.heap.size+1+1]? =some (.cells #[.bool (iS ts f)] 4 (0,0)):=(bk (by simp at hD;omega)).trans hv;have hb2:=(eI.below (n₀:=w.heap.size) (B:=w.heap.size) (w₀:=w) (aw _) (aw _)).put (.deferred none) (l:=D) hb (by simp at hD;omega) hK rfl;have hc:=cK 0 hv2 rfl
  gi_wp2
  refine⟨by simp,.inl ⟨_,_,rfl,cI hK,?_⟩⟩;exact⟨.bool (iS ts f),by simp[results,Tryz.results172,go_sem,hc],rfl,hb2⟩
end
end Go.Proofs.YtchdkjenhppleaaGreat
