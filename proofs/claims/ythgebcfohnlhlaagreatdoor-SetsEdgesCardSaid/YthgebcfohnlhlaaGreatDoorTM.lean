/-
 What is read,defined,needed are variables;ir.set.past.
-/
import Derived.Test.YthgebcfohnlhlaaGreatDoorRowG
import Derived.Test.YthgebcfohnlhlaaGreatDoorZed
import Derived.Test.YthgebcfohnlhlaaGreatDoorTH
import Derived.Test.YthgebcfohnlhlaaGreatDoorSortI
import Derived.Test.YthgebcfohnlhlaaGreatDoorRows2
import Derived.Deep.LoopGhost
namespace Go.Proofs.YthgebcfohnlhlaaGreatDoor
set_option linter.unusedSimpArgs false
set_option linter.unusedVariables false
set_option linter.unusedSectionVars false
set_option maxRecDepth 100000
set_option maxHeartbeats 40000000
section
open Go.RowKit
theorem fits_var{b:Bool}{x:Int}(h:fitsV b x=true):x=0∨varB x=true:=by
 unfold fitsV at h
 split at h
 ·exact .inr h
 ·exact .inl (by simpa using h)
theorem ins_vars{i:InsD}(h:isInsB i=true):(∀x∈i.args,varB x=true)∧(i.a=0∨varB i.a=true)∧(i.b=0∨varB i.b=true)∧(i.dst=0∨varB i.dst=true):=by
 unfold isInsB at h
 simp only at h
 split at h
 ·cases h
 ·split at h
  ·simp only[Bool.and_eq_true,noneB,List.any_cons,List.any_nil,Bool.or_false,Bool.not_eq_true',Bool.or_eq_false_iff,bne_eq_false_iff_eq,List.any_eq_false,Bool.not_eq_true,Bool.not_eq_false'] at h;obtain⟨⟨⟨⟨h0,_⟩,hd⟩,_⟩,ha⟩:=h;exact⟨fun x hx=>(by have:=ha x hx;simpa using this),.inl h0.1,.inl h0.2.1,fits_var hd⟩
  ·split at h
   ·cases h
   ·simp only[Bool.and_eq_true,beq_iff_eq] at h;obtain⟨⟨⟨⟨_,hargs⟩,hd⟩,ha⟩,hb⟩:=h;have hargs:=List.eq_nil_of_length_eq_zero hargs;exact⟨fun x hx=>(by rw[hargs] at hx;cases hx),fits_var ha,fits_var hb,fits_var hd⟩
theorem var_iff{x:Int}:varB x=true↔1≤x∧x≤200:=by simp[varB]
theorem reads_var{i:InsD}{x:Int}(h:x∈readsI i):1≤x∧x≤200:=by
 unfold readsI at h
 split at h
 ·rename_i hi
  obtain⟨h1,h2,h3,_⟩:=ins_vars hi;rcases List.mem_append.1 h with h|h
  ·obtain⟨h4,h5⟩:=List.mem_filter.1 h;have h5:x≠0:=by simpa using h5
   simp only[List.mem_cons,List.not_mem_nil,or_false] at h4;rcases h4 with rfl|rfl
   ·exact var_iff.1 (h2.resolve_left h5)
   ·exact var_iff.1 (h3.resolve_left h5)
  ·exact var_iff.1 (h1 x h)
 ·cases h
theorem defines_var(i:InsD):0≤definesV i∧definesV i≤200:=by
 unfold definesV
 split
 ·rename_i hi
  rcases(ins_vars hi).2.2.2 with h|h
  ·rw[h];omega
  ·have:=var_iff.1 h;omega
 ·omega
theorem needs_var{t:TermD}{x:Int}(h:x∈needsT t):1≤x∧x≤200:=by
 unfold needsT at h
 split at h
 ·rename_i hb
  simp only[Bool.and_eq_true,bne_iff_ne,ne_eq] at hb;rw[List.mem_singleton] at h;subst h;have ht:=hb.1;have h0:=hb.2;unfold termB at ht
  repeat' split at ht
  ·simp only[decide_eq_true_eq] at ht;exact absurd ht.1 h0
  ·exact var_iff.1 ht
  ·simp only[Bool.and_eq_true,Bool.or_eq_true,decide_eq_true_eq] at ht;exact var_iff.1 (ht.1.resolve_left h0)
  ·simp only[decide_eq_true_eq] at ht;exact absurd ht.2.1 h0
 ·cases h
def putS(f:Nat→Bool)(j:Nat):Nat→Bool:=fun k=>if k=j then true else f k
def pastB:(Nat→Bool)→List InsR→TermD→Bool
 |f,[],t=>hasB f (needsT t)
 |f,r :: l,t=>hasB f (readsI r.d)&&pastB (putS f (definesV r.d).toNat) l t
def pastF(f:Nat→Bool)(rs:List InsR):Nat→Bool:=rs.foldl (fun f r=>putS f (definesV r.d).toNat) f
theorem past_take(f:Nat→Bool)(rs:List InsR)(k:Nat)(r:InsR)(h:rs[k]? =some r):pastF f (rs.take (k+1))=putS (pastF f (rs.take k)) (definesV r.d).toNat:=by
 rw[List.take_add_one,h,pastF,List.foldl_append]
 rfl
theorem past_drop(f:Nat→Bool)(rs:List InsR)(t:TermD)(k:Nat)(r:InsR)(h:rs[k]? =some r):pastB f (rs.drop k) t=(hasB f (readsI r.d)&&pastB (putS f (definesV r.d).toNat) (rs.drop (k+1)) t):=by
 have hk:=(List.getElem?_eq_some_iff.1 h).1
 rw[List.drop_eq_getElem_cons hk,pastB]
 have:=(List.getElem?_eq_some_iff.1 h).2
 rw[this]
def PJ(w:World)(b:BlkH)(f:Nat→Bool)(W:World):Prop:=
 W.heap[w.heap.size]? =some (vsO f)∧W.heap[w.heap.size+1]? =some (blkO b)∧(∃h,W.heap[w.heap.size+1+1]? =some (vsO h))∧Below w.heap.size w W
theorem PJ.ext{w:World}{b:BlkH}{f:Nat→Bool}{W W':World}(h:PJ w b f W)(hb:Below W.heap.size W W'):PJ w b f W':=by
 obtain⟨h1,h2,⟨g,h3⟩,h4⟩:=h
 refine⟨block_ext hb h1,block_ext hb h2,⟨g,block_ext hb h3⟩,h4.trans (hb.mono h4.size)⟩
theorem size_insR:(Tryz.prog.info? 57).map (·.size)=some 8:=by kernel_rfl
theorem vPast_any(f:Nat→Bool)(b:BlkH)(rs:List InsR)(w:World)(ht:TermOK b.t)(hI:InsS w b.ia b.n rs)(hna:∀r∈rs,r.na≤1000000):
  Calls Tryz.prog 164 #[.agg (setV f),blkV b] w fun e w'=>∃h,e=.returned (.tuple #[.agg (setV h),.bool (pastB f rs b.t)])∧Below w.heap.size w w':=by
 have HT:=Lib.hid ht
 have HI:=Lib.hid hI
 have HNA:=Lib.hid hna
 have HL:=Lib.hid hI.1.1
 have hn:=hI.1.2.1
 clear ht hI hna
 go_enter Tryz.func164,Tryz.ntmps164
 go_upto_region 1 with (fail)
 obtain⟨W,hW⟩:∃W,W=((w.alloc (vsO f)).alloc (blkO b)).alloc (vsO fun _=>false):=⟨_,rfl⟩
 rw[zero_vset,←hW]
 have hJ:PJ w b f W:=by
  rw[hW];refine⟨?_,?_,⟨fun _=>false,?_⟩,(((Below.refl _ w).alloc (Nat.le_refl _) _).alloc (by simp) _).alloc (by simp;omega) _⟩
  ·rw[Below.heap_alloc _ _ _ (by simp;omega),Below.heap_alloc _ _ _ (by simp)];exact heap_alloc_new _ _
  ·rw[Below.heap_alloc _ _ _ (by simp)];have:=heap_alloc_new (w.alloc (vsO f)) (blkO b);simpa using this
  ·have:=heap_alloc_new ((w.alloc (vsO f)).alloc (blkO b)) (vsO fun _=>false);simpa using this
 have HJ:=Lib.hid hJ
 have b0:W.cell? ⟨w.heap.size+1,0,none⟩=some (.slice b.ia b.n b.c):=by rw[cell_of_row _ _ _ _ _ _ hJ.2.1];rfl
 have hl1:=lt_of_heap hJ.2.1
 clear hW hJ
 go_wp2
 clear b0 hl1
 go_loopw [11] (fun i wr=>∃k:Nat,i=.int .i64 k∧k≤b.n∧Hid (PJ w b (pastF f (rs.take k)) wr)∧Hid (pastB f rs b.t=pastB (pastF f (rs.take k)) (rs.drop k) b.t)) (fun i _=>b.n-(intOf i).toNat)
 case atStart=>exact⟨0,rfl,by omega,HJ.out,rfl⟩
 case round=>
  obtain⟨k,rfl,hk,HP,HE⟩:=hrel;clear HJ;by_cases hlt:k<b.n
  ·obtain⟨r,bb,oo,hr,hok,hia,c0,c1,c2,c3,c4,c5,c6,c7⟩:=(HI.out.ext HP.out.2.2.2).cells hlt;have HST:=Lib.hid (past_take f rs k r hr);have HDR:=Lib.hid (past_drop (pastF f (rs.take k)) rs b.t k r hr);have hnr:=HNA.out r (List.mem_of_getElem? hr);generalize pastF f (rs.take k)=fk at *;rw[hia];have hlt':(k:Int)<(b.n:Int):=by omega
   have HOK:=Lib.hid hok;clear hr hok;go_upto_region 4 with (fail)
   obtain⟨Wi,hWi⟩:∃Wi,Wi=wr.alloc (insO r.d r.aa r.na r.ca):=⟨_,rfl⟩
   have hri:Wi.heap[wr.heap.size]? =some (insO r.d r.aa r.na r.ca):=by rw[hWi];exact heap_alloc_new _ _
   have hbi:Below wr.heap.size wr Wi:=by rw[hWi];exact ext_alloc _ _
   rw[show wr.alloc (Obj.cells #[.int .i64 r.d.op,.int .i64 r.d.dst,.int .i64 r.d.a,.int .i64 r.d.b,.int .i64 r.d.imm,.int .i64 r.d.callee,.slice r.aa r.na r.ca,.int .i64 r.d.many] 57)=Wi from hWi.symm];have HRI:=Lib.hid hri;have HPI:=Lib.hid (HP.out.ext hbi);have HOKI:=Lib.hid (HOK.out.ext hbi);have HRD:=Lib.hid (fun x hx=>reads_var (i:=r.d) (x:=x) hx);obtain⟨m,hm⟩:∃m:Nat,definesV r.d=(m:Int):=⟨(definesV r.d).toNat,by have:=(defines_var r.d).1;omega⟩
   have hml:m<201:=by have:=(defines_var r.d).2;omega
   have HMD:=Lib.hid hm;clear hWi hri hbi c0 c1 c2 c3 c4 c5 c6 c7 hia hm HP HOK;cases hb:hasB fk (readsI r.d) with
   |false=>
    have HF:Hid (pastB f rs b.t=false):=by rw[Hid,HE.out,HDR.out,hb];rfl
    go_wp2_with (first
     |((with_reducible show wpList _ _ _ (⟨some 15,_,_,_,_,_⟩ :: _) _ _);refine wpList_load_row (o:=⟨some 15,.load 57 _,_,_,_,_⟩) rfl 57 _ rfl wr.heap.size rfl 57 _ (0,0) _ HRI.out Tryz.underlying57 rfl size_insR ?_)
     |(go_at_call 96
       refine(readsI_any r.d r.aa r.na r.ca Wi HOKI.out.1 HOKI.out.2.2.2.2.1 HOKI.out.2.2.2.2.2.1 HOKI.out.2.2.2.2.2.2.1 HOKI.out.2.2.2.2.2.2.2.1 hnr).mono ?_;rintro e w1 ⟨rv,rfl,ho,hb1⟩;obtain⟨ra,rc,rfl⟩:=ho.form;have HO1:=Lib.hid ho.ints;have HP1:=Lib.hid (HPI.out.ext hb1)
       clear ho hb1)
     |(go_at_call 242
       refine(vHas_any fk w.heap.size ra _ rc (readsI r.d) w1 HP1.out.1 HO1.out (fun x hx=>⟨by have:=(HRD.out x hx).1;omega,(HRD.out x hx).2⟩)).mono ?_;rw[hb];rintro e w2 ⟨rfl,hb2⟩;have HP2:=Lib.hid (HP1.out.ext hb2)
       clear hb2)
     |((with_reducible show wpList _ _ _ (⟨some 19,_,_,_,_,_⟩ :: _) _ _);refine wpList_load_row (o:=⟨some 19,.load 193 _,_,_,_,_⟩) rfl 193 _ rfl w.heap.size rfl 193 _ (0,0) _ HP2.out.1 Tryz.underlying193 rfl (by rw[setV_size];exact size_vset) ?_)
     |(refine wpList_store_row rfl 193 _ _ rfl (w.heap.size+1+1) (setV fk) rfl rfl 193 _ HP2.out.2.2.1.choose_spec (by rw[setV_size];exact size_vset) (by rw[setV_size,setV_size]) (setV_all _) ?_))
    have hload:=load_vset (setRow_heap _ _ _ (setV fk) _ _ HP2.out.2.2.1.choose_spec);refine bodyPost_ret (v:=.tuple #[.agg (setV fk),.bool false]) (by simp[results,Tryz.results164,asAddr,Act.put,hload]) rfl ?_;rw[HF.out];exact⟨_,rfl,below_setRow HP2.out.2.2.2 (by omega) _⟩
   |true=>
    have HF:Hid (pastB f rs b.t=pastB (putS fk m) (rs.drop (k+1)) b.t):=by rw[Hid,HE.out,HDR.out,hb,HMD.out];rfl
    have HS1:Hid (pastF f (rs.take (k+1))=putS fk m):=by rw[Hid,HST.out,HMD.out];rfl
    go_wp2_with (first
     |((with_reducible show wpList _ _ _ (⟨some 15,_,_,_,_,_⟩ :: _) _ _);refine wpList_load_row (o:=⟨some 15,.load 57 _,_,_,_,_⟩) rfl 57 _ rfl wr.heap.size rfl 57 _ (0,0) _ HRI.out Tryz.underlying57 rfl size_insR ?_)
     |(go_at_call 96
       refine(readsI_any r.d r.aa r.na r.ca Wi HOKI.out.1 HOKI.out.2.2.2.2.1 HOKI.out.2.2.2.2.2.1 HOKI.out.2.2.2.2.2.2.1 HOKI.out.2.2.2.2.2.2.2.1 hnr).mono ?_;rintro e w1 ⟨rv,rfl,ho,hb1⟩;obtain⟨ra,rc,rfl⟩:=ho.form;have HO1:=Lib.hid ho.ints;have HP1:=Lib.hid (HPI.out.ext hb1);have HR1:=Lib.hid (block_ext hb1 HRI.out);have HK1:=Lib.hid (HOKI.out.ext hb1)
       clear ho hb1)
     |(go_at_call 242
       refine(vHas_any fk w.heap.size ra _ rc (readsI r.d) w1 HP1.out.1 HO1.out (fun x hx=>⟨by have:=(HRD.out x hx).1;omega,(HRD.out x hx).2⟩)).mono ?_;rw[hb];rintro e w2 ⟨rfl,hb2⟩;have HP2:=Lib.hid (HP1.out.ext hb2);have HR2:=Lib.hid (block_ext hb2 HR1.out);have HK2:=Lib.hid (HK1.out.ext hb2)
       clear hb2)
     |((with_reducible show wpList _ _ _ (⟨some 20,_,_,_,_,_⟩ :: _) _ _);refine wpList_load_row (o:=⟨some 20,.load 57 _,_,_,_,_⟩) rfl 57 _ rfl wr.heap.size rfl 57 _ (0,0) _ HR2.out Tryz.underlying57 rfl size_insR ?_)
     |(go_at_call 97
       refine(defines_any r.d r.aa r.na r.ca w2 HK2.out.1 HK2.out.2.2.2.2.1 HK2.out.2.2.2.2.2.1 HK2.out.2.2.2.2.2.2.1 HK2.out.2.2.2.2.2.2.2.1).mono ?_;rw[HMD.out];rintro e w3 ⟨rfl,hb3⟩;have HP3:=Lib.hid (HP2.out.ext hb3);have hcell:=vset_cell HP3.out.1 m hml;have hfr:=vset_free HP3.out.1 m;have hl3:=lt_of_heap HP3.out.1;have hmi:(m:Int)<201:=(by omega)
       clear hb3))
    have hP4:PJ w b (putS fk m) (w3.setCell ⟨w.heap.size,m,none⟩ (.bool true)):=by
     obtain⟨h1,h2,⟨h,h3⟩,h4⟩:=HP3.out;refine⟨vset_put h1 m true fun j _=>rfl,?_,⟨h,?_⟩,h4.setCell (Nat.le_refl _) _⟩
     ·rw[Below.heap_setCell _ _ _ _ (by simp)];exact h2
     ·rw[Below.heap_setCell _ _ _ _ (by simp;omega)];exact h3
    go_roundw
    case rel=>exact⟨k+1,by go_num,by omega,by rw[Hid,HS1.out];exact hP4,by rw[Hid,HS1.out];exact HF.out⟩
    case measure=>simp[intOf];omega
  ·obtain rfl:k=b.n:=by omega
   have HE2:Hid (pastB f rs b.t=hasB (pastF f (rs.take b.n)) (needsT b.t)):=by
    rw[Hid,HE.out,List.drop_of_length_le (by rw[HL.out];exact Nat.le_refl _)];rfl
   generalize pastF f (rs.take b.n)=fk at *;have HNV:=Lib.hid (fun x hx=>needs_var (t:=b.t) (x:=x) hx);obtain⟨wp,hwp⟩:∃x,x=wr:=⟨_,rfl⟩
   go_upto_region 8 with (fail)
   have q1:∀w',(∃m:ClsW (PJ w b fk),w'=m.val)→w'.heap[w.heap.size]? =some (vsO fk):=fun w' ⟨m,e⟩=>by rw[e];exact m.prop.1
   have g1:∀m:ClsW (PJ w b fk),m.val.cell? ⟨w.heap.size+1,1,none⟩=some (.int .i64 b.t.kind):=fun m=>by rw[cell_of_row _ _ _ _ _ _ m.prop.2.1];rfl
   have g2:∀m:ClsW (PJ w b fk),m.val.cell? ⟨w.heap.size+1,2,none⟩=some (.int .i64 b.t.a):=fun m=>by rw[cell_of_row _ _ _ _ _ _ m.prop.2.1];rfl
   have g3:∀m:ClsW (PJ w b fk),m.val.cell? ⟨w.heap.size+1,3,none⟩=some (.int .i64 b.t.t0):=fun m=>by rw[cell_of_row _ _ _ _ _ _ m.prop.2.1];rfl
   have g4:∀m:ClsW (PJ w b fk),m.val.cell? ⟨w.heap.size+1,4,none⟩=some (.int .i64 b.t.t1):=fun m=>by rw[cell_of_row _ _ _ _ _ _ m.prop.2.1];rfl
   have hP0:PJ w b fk wr.drew:=HP.out.ext (ext_drewN (Below.refl _ _) 1);obtain⟨v0,hv0,hP0⟩:∃v0,wr.drew=v0∧PJ w b fk v0:=⟨_,rfl,hP0⟩
   have hne:Nonempty (ClsW (PJ w b fk)):=cls_ne hP0;have hst:∀W',PJ w b fk W'→PJ w b fk (W'.setRow (w.heap.size+1+1) (setV fk))∧(W'.setRow (w.heap.size+1+1) (setV fk)).heap[w.heap.size+1+1]? =some (vsO fk):=fun W' h=>by
    obtain⟨h1,h2,⟨h,h3⟩,h4⟩:=h;have hs:=setRow_heap _ _ _ (setV fk) _ _ h3;refine⟨⟨?_,?_,⟨fk,hs⟩,below_setRow h4 (by omega) _⟩,hs⟩
    ·exact((below_setRow (B:=w.heap.size+1) (g:=w.heap.size+1+1) (w0:=W') (w:=W') (Below.refl _ _) (by omega) (setV fk)).block w.heap.size (by omega)).trans h1
    ·exact((below_setRow (B:=w.heap.size+1+1) (g:=w.heap.size+1+1) (w0:=W') (w:=W') (Below.refl _ _) (by omega) (setV fk)).block (w.heap.size+1) (by omega)).trans h2
   refine z_start (fun w'=>∃m:ClsW (PJ w b fk),w'=m.val) (by kernel_rfl) ?_;rw[hv0];refine z_reads 0 3 (by kernel_rfl) (cls_mk hP0) ?_;simp only[List.take_succ_cons,List.take_zero,List.drop_succ_cons,List.drop_zero]
   repeat (first
    |(refine wpQuiet_load_row (o:=⟨some 24,.load 193 _,_,_,_,_⟩) (by rfl) 193 _ rfl w.heap.size rfl 193 _ (0,0) _ q1 Tryz.underlying193 rfl (by rw[setV_size];exact size_vset) ?_;simp only[Act.put,List.setIfInBounds_toArray,List.set_cons_succ,List.set_cons_zero])
    |go_big_quiet_step (fail))
   refine wpQuiet_nil ?_;clear q1 g1 g2 g3 g4 hv0;have HST:=Lib.hid hst;have HP0:=Lib.hid hP0;clear hst hP0 hne;refine z_one 3 (by kernel_rfl) ?_;refine wpOp_at rfl rfl ?_;go_simp;refine(needsT_any b.t v0 HT.out).mono ?_;rintro e v1 ⟨rv,rfl,ho,hb1⟩;obtain⟨ra,rc,rfl⟩:=ho.form;have HO1:=Lib.hid ho.ints;have HP1:=Lib.hid (HP0.out.ext hb1);clear ho hb1;refine⟨Or.inr (cls_mk HP1.out),?_⟩
   try simp only[Act.put,List.setIfInBounds_toArray,List.set_cons_succ,List.set_cons_zero]
   refine z_one 4 (by kernel_rfl) ?_;refine wpOp_at rfl rfl ?_;go_simp;refine(vHas_any fk w.heap.size ra _ rc (needsT b.t) v1 HP1.out.1 HO1.out (fun x hx=>⟨by have:=(HNV.out x hx).1;omega,(HNV.out x hx).2⟩)).mono ?_;rintro e v2 ⟨rfl,hb2⟩;have HP2:=Lib.hid (HP1.out.ext hb2);clear hb2;refine⟨Or.inr (cls_mk HP2.out),?_⟩
   try simp only[Act.put,List.setIfInBounds_toArray,List.set_cons_succ,List.set_cons_zero]
   refine z_one 5 (by kernel_rfl) ?_;refine wpOp_at rfl rfl ?_;refine wp_store_row 193 _ _ rfl (w.heap.size+1+1) (setV fk) rfl rfl 193 _ HP2.out.2.2.1.choose_spec (by rw[setV_size];exact size_vset) (by rw[setV_size,setV_size]) (setV_all _) ?_;have HP3:=Lib.hid (HST.out v2 HP2.out);refine⟨Or.inr (cls_mk HP3.out.1),?_⟩
   try simp only[Act.put,List.setIfInBounds_toArray,List.set_cons_succ,List.set_cons_zero]
   refine z_reads 6 1 (by kernel_rfl) (cls_mk HP3.out.1) ?_;simp only[List.take_succ_cons,List.take_zero,List.drop_succ_cons,List.drop_zero]
   repeat (go_big_quiet_step (fail))
   refine wpQuiet_nil ?_;refine z_done (by kernel_rfl) ?_;generalize v2.setRow (w.heap.size+1+1) (setV fk)=v3 at *;go_wp2;have hload:=load_vset HP3.out.2;refine bodyPost_ret (v:=.tuple #[.agg (setV fk),.bool (hasB fk (needsT b.t))]) (by simp[results,Tryz.results164,asAddr,Act.put,hload]) rfl ?_;rw[HE2.out];exact⟨_,rfl,HP3.out.1.2.2.2⟩
end

section
open Go.RowKit
structure TileR where
 d:TileD
 ba:Option Addr
 bn:Nat
 bc:Nat
def tileC(t:TileR):List Value:= [.int .i64 t.d.kind,.int .i64 t.d.parent,.slice t.ba t.bn t.bc]
theorem tileC_len(t:TileR):(tileC t).length=3:=rfl
def TilesOK(w:World)(a:Option Addr)(n:Nat)(ls:List TileR):Prop:=Recs 3 tileC w a n ls∧∀t∈ls,Ints w t.ba t.bn t.d.blocks∧t.bn≤t.bc∧I64 t.d.kind∧I64 t.d.parent
theorem TilesOK.ext{w w':World}{a:Option Addr}{n:Nat}{ls:List TileR}(h:TilesOK w a n ls)(hb:Below w.heap.size w w'):TilesOK w' a n ls:=⟨h.1.ext tileC_len hb,fun t ht=>⟨(h.2 t ht).1.ext hb,(h.2 t ht).2⟩⟩
def tdOf(ls:List TileR):List TileD:=ls.map (·.d)
theorem tdOf_len(ls:List TileR):(tdOf ls).length=ls.length:=by simp[tdOf]
theorem tdOf_at(ls:List TileR)(k:Nat)(t:TileR)(h:ls[k]? =some t):(tdOf ls).getD k zTile=t.d:=by simp[tdOf,List.getD_eq_getElem?_getD,h]
abbrev tileO(t:TileR):Obj:=.cells #[.int .i64 t.d.kind,.int .i64 t.d.parent,.slice t.ba t.bn t.bc] 77
theorem TilesOK.cells{w:World}{a:Option Addr}{n:Nat}{ls:List TileR}(h:TilesOK w a n ls){k:Nat}(hk:k<n):∃t b o,ls[k]? =some t∧(Ints w t.ba t.bn t.d.blocks∧t.bn≤t.bc∧I64 t.d.kind∧I64 t.d.parent)∧a=some ⟨b,o,none⟩∧
  w.cell? ⟨b,o+k*3,none⟩=some (.int .i64 t.d.kind)∧w.cell? ⟨b,o+k*3+1,none⟩=some (.int .i64 t.d.parent)∧w.cell? ⟨b,o+k*3+2,none⟩=some (.slice t.ba t.bn t.bc):=by
 have hk':k<ls.length:=by rw[h.1.1];exact hk
 obtain⟨b,o,e,hc⟩:=h.1.2.2 k ls[k] (List.getElem?_eq_getElem hk')
 exact⟨ls[k],b,o,List.getElem?_eq_getElem hk',h.2 _ (List.getElem_mem hk'),e,hc 0 (by omega),hc 1 (by omega),hc 2 (by omega)⟩
theorem parents_any(a:Option Addr)(n c:Nat)(ls:List TileR)(w:World)(h:TilesOK w a n ls):
  Calls Tryz.prog 73 #[.slice a n c] w fun e w'=>e=.returned (.bool (parentsB (tdOf ls)))∧Below w.heap.size w w':=by
 have hn:=h.1.2.1
 have HL:=Lib.hid h.1.1
 have H:=Lib.hid h
 clear h
 go_enter Tryz.func73,Tryz.ntmps73
 go_wp2
 go_loopw [7] (fun i wr=>∃(k:Nat),k≤n∧i=.int .i64 k∧Hid (∀j,j<k→-1≤parL (tdOf ls) j∧parL (tdOf ls) j<j)∧Hid (Below w.heap.size w wr)) (fun i _=>n-(intOf i).toNat)
 case atStart=>exact⟨0,by omega,rfl,fun j hj=>absurd hj (by omega),Below.refl _ _⟩
 case round=>
  obtain⟨k,hk,rfl,HR,HB⟩:=hrel;by_cases hlt:k<n
  ·obtain⟨t,b,o,hlk,hok,rfl,c0,c1,c2⟩:=(H.out.ext HB.out).cells hlt;obtain⟨_,_,_,hp1,hp2⟩:=hok;have htd:=tdOf_at ls k t hlk;have HTD:Hid (parL (tdOf ls) k=t.d.parent):=by rw[Hid,parL,htd]
   clear hlk htd;have hlt':(k:Int)<(n:Int):=by omega
   by_cases hg1:t.d.parent< -1
   ·have HE:Hid (parentsB (tdOf ls)=false):=by
     rw[Hid,Bool.eq_false_iff];intro h;have:=(parentsB_iff _).1 h k (by rw[tdOf_len,HL.out];exact hlt);rw[HTD.out] at this;omega
    go_wp2
    go_ret
    exact⟨by rw[HE.out];rfl,HB.out.alloc HB.out.size _⟩
   ·by_cases hg2:t.d.parent<k
    ·have HR2:Hid (∀j,j<k+1→-1≤parL (tdOf ls) j∧parL (tdOf ls) j<j):=fun j hj=>by
      by_cases e:j=k
      ·subst e;rw[HTD.out];omega
      ·exact HR.out j (by omega)
     go_wp2
     go_roundw
     case rel=>exact⟨k+1,by omega,by go_num,HR2,HB.out.alloc HB.out.size _⟩
     case measure=>simp[intOf];omega
    ·have HE:Hid (parentsB (tdOf ls)=false):=by
      rw[Hid,Bool.eq_false_iff];intro h;have:=(parentsB_iff _).1 h k (by rw[tdOf_len,HL.out];exact hlt);rw[HTD.out] at this;omega
     go_wp2
     go_ret
     exact⟨by rw[HE.out];rfl,HB.out.alloc HB.out.size _⟩
  ·obtain rfl:k=n:=by omega
   have HE:Hid (parentsB (tdOf ls)=true):=(parentsB_iff _).2 fun j hj=>HR.out j (by rw[tdOf_len,HL.out] at hj;exact hj);go_wp2
   go_ret
   exact⟨by rw[HE.out];rfl,HB.out⟩
end

section
open Go.RowKit
def mfind:List MapEntry→Int→Option Value
 | [],_=>none
 |e :: l,k=>match e.key with
  | .int .i64 j=>if k=j then some e.val else mfind l k
  |_=>mfind l k
def intKeys(l:List MapEntry):Prop:=∀e∈l,∃k:Int,e.key=.int .i64 k
def IMap(w:World)(b:Nat)(f:Int→Option Value):Prop:=
 ∃es clock,w.heap[b]? =some (.map es clock)∧intKeys es.toList∧∀k,mfind es.toList k=f k
def upd(f:Int→Option Value)(k:Int)(v:Value):Int→Option Value:=fun j=>if j=k then some v else f j
theorem findNow_int(q:IntKind)(k:Int):∀(l:List MapEntry) (i:Nat),intKeys l→
  (Instr.findNow (.int q) (.int .i64 k) l i=some none∧mfind l k=none)∨
  ∃j e,l[j]? =some e∧Instr.findNow (.int q) (.int .i64 k) l i=some (some (i+j,e.val))∧e.key=.int .i64 k∧mfind l k=some e.val∧
   ∀v,intKeys (l.modify j fun e=>{e with key:=.int .i64 k,val:=v})∧∀k',mfind (l.modify j fun e=>{e with key:=.int .i64 k,val:=v}) k'=upd (mfind l) k v k':=by
 intro l
 induction l with
 |nil=>intro i _;exact Or.inl ⟨rfl,rfl⟩
 |cons e l ih=>
  intro i hk;obtain⟨j,hj⟩:=hk e (by simp);have hk':intKeys l:=fun x hx=>hk x (by simp[hx]);by_cases h:k=j
  ·subst h;refine Or.inr ⟨0,e,rfl,?_,hj,?_,fun v=>⟨?_,fun k'=>?_⟩⟩
   ·simp[Instr.findNow,Instr.sameNow,hj]
   ·simp[mfind,hj]
   ·intro x hx;simp at hx;rcases hx with rfl|hx
    ·exact⟨k,rfl⟩
    ·exact hk' x hx
   ·simp only[List.modify_zero_cons,mfind,upd,hj]
    split<;>rfl
  ·have hb:(k==j)=false:=by simpa using h
   rcases ih (i+1) hk' with ⟨h1,h2⟩|⟨m,e',h0,h1,h2,h3,h4⟩
   ·exact Or.inl ⟨by simp[Instr.findNow,Instr.sameNow,hj,hb,h1],by simp[mfind,hj,h,h2]⟩
   ·refine Or.inr ⟨m+1,e',by simpa using h0,?_,h2,?_,fun v=>⟨?_,fun k'=>?_⟩⟩
    ·simp[Instr.findNow,Instr.sameNow,hj,hb,h1];omega
    ·simp[mfind,hj,h,h3]
    ·intro x hx;simp at hx;rcases hx with rfl|hx
     ·exact⟨j,hj⟩
     ·exact(h4 v).1 x hx
    ·have:=(h4 v).2 k';simp only[List.modify_succ_cons,mfind,upd,hj] at this⊢;rw[this];by_cases e1:k'=j
     ·subst e1;simp[Ne.symm h]
     ·simp[e1]
theorem mfind_push(l:List MapEntry)(k:Int)(v:Value)(b:Nat)(k':Int)(hn:mfind l k=none)(hk:intKeys l):
  mfind (l++ [{key:=.int .i64 k,val:=v,born:=b}]) k'=upd (mfind l) k v k':=by
 induction l with
 |nil=>simp[mfind,upd]
 |cons e l ih=>
  obtain⟨j,hj⟩:=hk e (by simp);simp only[mfind,hj] at hn
  split at hn
  ·cases hn
  ·rename_i hkj
   have:=ih hn (fun x hx=>hk x (by simp[hx]));simp only[List.cons_append,mfind,hj,upd] at this⊢;rw[this];by_cases e1:k'=j
   ·subst e1;simp[Ne.symm hkj]
   ·simp[e1]
section
variable {P:Program} {t kt et:TypeId} {w:World} {b:Nat} {f:Int→Option Value}
theorem IMap.lt(h:IMap w b f):b<w.heap.size:=by obtain⟨es,c,hb,_⟩:=h;exact(Array.getElem?_eq_some_iff.1 hb).1
theorem IMap.made(w:World):IMap (w.alloc (.map #[] 0)) w.heap.size (fun _=>none):=
 ⟨#[],0,World.alloc_heap_new w _,by intro e he;simp at he,fun k=>rfl⟩
theorem IMap.of_block{w':World}(h:IMap w b f)(hb:w'.heap[b]? =w.heap[b]?):IMap w' b f:=by
 obtain⟨es,c,h1,h2⟩:=h;exact⟨es,c,hb.trans h1,h2⟩
theorem IMap.ext{w':World}(h:IMap w b f)(hb:Below w.heap.size w w'):IMap w' b f:=h.of_block (hb.block b h.lt)
theorem IMap.grown{w':World}{row:Option Nat}(h:IMap w b f)(hg:w.grownBy w' row)(hne:some b≠row):IMap w' b f:=h.of_block (hg.block b h.lt hne)
theorem IMap.setCell(h:IMap w b f)(p:Addr)(v:Value):IMap (w.setCell p v) b f:=by
 obtain⟨es,c,h1,h2⟩:=h
 refine⟨es,c,?_,h2⟩
 by_cases e:b=p.block
 ·subst e;obtain⟨hlt,hk'⟩:=Array.getElem?_eq_some_iff.1 h1;show(w.heap.modify p.block _)[p.block]? =_;rw[Array.getElem?_eq_getElem (by rw[Array.size_modify];exact hlt),Array.getElem_modify_self,hk']
 ·exact(Below.heap_setCell w p v b e).trans h1
theorem run_checkKey_int(hk:P.underlying kt=some (.int .i64))(em:Bool)(k:Int)(w:World):(Instr.checkKey em 10000 kt (.int .i64 k)).run P w=.ok () w:=by
 have:∀n,(Instr.checkKey em (n+1) kt (.int .i64 k)).run P w=.ok () w:=fun n=>by simp[Instr.checkKey,run_underlying hk]
 exact this 9999
theorem sameBits_int(k:Int):Instr.sameBits 10000 (.int .i64 k) (.int .i64 k)=true:=by
 have:∀n,Instr.sameBits n (.int .i64 k) (.int .i64 k)=true:=fun n=>by cases n<;>simp[Instr.sameBits]
 exact this 10000
theorem run_findKey_int(hk:P.underlying kt=some (.int .i64))(k:Int)(l:List MapEntry)(r:Option (Nat×Value))(w:World)(h:Instr.findNow (.int .i64) (.int .i64 k) l 0=some r):
  (Instr.findKey kt (.int .i64 k) l).run P w=.ok r w:=by
 simp[Instr.findKey,run_underlying hk,h]
theorem IMap.look(h:IMap w b f)(ht:P.underlying t=some (.map kt et))(hk:P.underlying kt=some (.int .i64)){z:Value}(hz:(zeroValue et).run P w=.ok z w)(k:Int):
  (Instr.lookup t (.map (some b)) (.int .i64 k) false).run P w=.ok ((f k).getD z) w:=by
 obtain⟨es,c,hb,hi,hf⟩:=h
 have hgo:(getObj b).run P w=.ok (.map es c) w:=by simp[getObj,Sem.run,hb]
 rcases findNow_int .i64 k es.toList 0 hi with ⟨h1,h2⟩|⟨j,e,_,h1,_,h2,_⟩
 ·rw[hf] at h2;simp[Instr.lookup,run_underlying ht,Sem.run_bind,hgo,run_checkKey_int hk,run_findKey_int hk k _ _ w h1,hz,h2,Result.andThen]
 ·rw[hf] at h2;simp[Instr.lookup,run_underlying ht,Sem.run_bind,hgo,run_checkKey_int hk,run_findKey_int hk k _ _ w h1,h2,Result.andThen]
theorem IMap.put(h:IMap w b f)(ht:P.underlying t=some (.map kt et))(hk:P.underlying kt=some (.int .i64))(k:Int)(v:Value):
  ∃o,(Instr.mapUpdate t (.map (some b)) (.int .i64 k) v).run P w=.ok () (w.putObj b o)∧IMap (w.putObj b o) b (upd f k v):=by
 have hlt:=h.lt
 obtain⟨es,c,hb,hi,hf⟩:=h
 have hgo:(getObj b).run P w=.ok (.map es c) w:=by simp[getObj,Sem.run,hb]
 have hso:∀o,(setObj b o).run P w=.ok () (w.putObj b o):=fun o=>by simp[setObj,Sem.run,hb,World.putObj]
 rcases findNow_int .i64 k es.toList 0 hi with ⟨h1,h2⟩|⟨j,e,hj,h1,hek,h2,h3⟩
 ·refine⟨.map (es.push {key:=.int .i64 k,val:=v,born:=c}) (c+1),?_,?_⟩
  ·simp[Instr.mapUpdate,run_underlying ht,Sem.run_bind,hgo,run_checkKey_int hk,run_findKey_int hk k _ _ w h1,hso,Result.andThen]
  ·refine⟨_,_,World.putObj_heap_same hlt,?_,fun k'=>?_⟩
   ·intro x hx;simp at hx;rcases hx with hx|rfl
    ·exact hi x (by simpa using hx)
    ·exact⟨k,rfl⟩
   ·rw[Array.toList_push,mfind_push _ _ _ _ _ h2 hi];simp only[upd,hf]
 ·have hes:es[0+j]? =some e:=by simpa using hj
  refine⟨.map (es.modify (0+j) fun e=>{e with key:=.int .i64 k,val:=v}) c,?_,?_⟩
  ·simp[Instr.mapUpdate,run_underlying ht,Sem.run_bind,hgo,run_checkKey_int hk,run_findKey_int hk k _ _ w h1,hso,Result.andThen,Instr.keyThatStays];simp at hes;simp[hes,hek,sameBits_int,hso]
  ·refine⟨_,_,World.putObj_heap_same hlt,?_,fun k'=>?_⟩
   ·have:=(h3 v).1;simpa[Array.toList_modify] using this
   ·have:=(h3 v).2 k';rw[Array.toList_modify,Nat.zero_add,this];simp only[upd,hf]
end
end

section
open Go.RowKit
def totL(l:List TileD):Nat:=(l.map fun t=>t.blocks.length).sum
theorem sum_take(l:List TileD):∀m,((l.take m).map fun t=>t.blocks.length).sum≤totL l:=by
 induction l with
 |nil=>intro m;simp[totL]
 |cons t l ih=>
  intro m;cases m with
  |zero=>simp[totL]
  |succ m=>have:=ih m;simp only[totL,List.take_succ_cons,List.map_cons,List.sum_cons] at this⊢;omega
theorem blkL_le(l:List TileD)(k:Nat):(blkL l k).length≤totL l:=by
 induction l generalizing k with
 |nil=>simp[totL,blkL]
 |cons t l ih=>
  cases k with
  |zero=>simp[totL,blkL]
  |succ k=>have:=ih k;simp only[totL,List.map_cons,List.sum_cons,blkL,List.getD_cons_succ] at this⊢;omega
theorem rawL_len(l:List TileD)(k m:Nat)(hm:m≤l.length):(rawL l k m).length≤2*totL l:=by
 have h1:∀m,m≤l.length→(((List.range m).filter fun n=>n != k&&descB l k n).flatMap (blkL l)).length≤((l.take m).map fun t=>t.blocks.length).sum:=by
  intro m
  induction m with
  |zero=>intro _;simp
  |succ m ih=>
   intro hm;have:=ih (by omega);rw[List.range_succ,List.filter_append,List.flatMap_append,List.length_append,List.take_add_one,List.getElem?_eq_getElem (by omega),List.map_append,List.sum_append];have e:(blkL l m).length=(l[m]'(by omega)).blocks.length:=by simp[blkL,List.getD_eq_getElem?_getD,show m<l.length by omega]
   by_cases hc:(m != k&&descB l k m)=true
   ·simp only[List.filter_cons,hc,if_true,List.filter_nil,List.flatMap_cons,List.flatMap_nil,List.append_nil,Option.toList_some,List.map_cons,List.map_nil,List.sum_cons,List.sum_nil];omega
   ·have hc':(m != k&&descB l k m)=false:=by simpa using hc
    simp only[List.filter_cons,hc',List.filter_nil,Option.toList_some,List.map_cons,List.map_nil,List.sum_cons,List.sum_nil];simp only[Bool.false_eq_true,if_false,List.flatMap_nil,List.length_nil];omega
 have h2:=h1 m hm
 have h3:=sum_take l m
 have h4:=blkL_le l k
 rw[rawL,List.length_append]
 omega
theorem rawL_zero(l:List TileD)(k:Nat):rawL l k 0=blkL l k:=by simp[rawL]
def upB(l:List TileD)(k m:Nat):Bool:=decide (0≤parL l m)&&descB l k (parL l m).toNat
theorem upB_self{l:List TileD}(hp:parentsB l=true)(k:Nat)(hk:k<l.length):upB l k k=false:=by
 rw[Bool.eq_false_iff]
 intro h
 simp only[upB,Bool.and_eq_true,decide_eq_true_eq] at h
 have h1:=(parentsB_iff l).1 hp k hk
 have:=descB_ge hp k _ (by omega) h.2
 omega
theorem rawL_step{l:List TileD}(hp:parentsB l=true)(k m:Nat)(hk:k<l.length)(hm:m<l.length):rawL l k (m+1)=if upB l k m then rawL l k m++blkL l m else rawL l k m:=by
 have e:(m != k&&descB l k m)=upB l k m:=by
  by_cases h:m=k
  ·subst h;rw[upB_self hp m hm];simp
  ·have h1:(m != k)=true:=by simpa using h
   have h2:(m==k)=false:=by simpa using h
   rw[h1,Bool.true_and,descB_eq hp k m hm,h2,Bool.false_or];rfl
 simp only[rawL,List.range_succ,List.filter_append,List.filter_cons,List.filter_nil,e,List.flatMap_append]
 cases upB l k m<;>simp
def belowF(l:List TileD)(k m:Nat):Int→Option Value:=fun x=>if x=k∨(0≤x∧x<m∧descB l k x.toNat=true) then some (.int .i64 1) else none
theorem belowF_zero(l:List TileD)(k:Nat):upd (fun _=>none) (k:Int) (.int .i64 1)=belowF l k 0:=by
 funext x
 by_cases e:x=k
 ·simp[upd,belowF,e]
 ·have:¬(0≤x∧x<((0:Nat):Int)∧descB l k x.toNat=true):=fun h=>by omega
  simp only[upd,belowF,if_neg e];rw[if_neg (fun h=>h.elim e this)]
theorem belowF_step{l:List TileD}(hp:parentsB l=true)(k m:Nat)(hk:k<l.length)(hm:m<l.length):belowF l k (m+1)=if upB l k m then upd (belowF l k m) (m:Int) (.int .i64 1) else belowF l k m:=by
 funext x
 have hd:m≠k→descB l k m=upB l k m:=fun h=>by
  have h2:(m==k)=false:=by simpa using h
  rw[descB_eq hp k m hm,h2,Bool.false_or];rfl
 by_cases e:x=m
 ·subst e;by_cases hmk:m=k
  ·subst hmk;rw[upB_self hp m hm];simp[belowF]
  ·have hne:¬(m:Int)=k:=by omega
   cases hu:upB l k m with
   |true=>
    have:belowF l k (m+1) (m:Int)=some (.int .i64 1):=by
     unfold belowF;rw[if_pos (.inr ⟨by omega,by omega,by simpa[hd hmk] using hu⟩)]
    rw[this];simp[upd]
   |false=>
    have h1:belowF l k (m+1) (m:Int)=none:=by
     unfold belowF;rw[if_neg];rintro(h|⟨_,_,h⟩)
     ·exact hne h
     ·rw[Int.toNat_natCast,hd hmk,hu] at h;cases h
    have h2:belowF l k m (m:Int)=none:=by
     unfold belowF;rw[if_neg];rintro(h|⟨_,h,_⟩)
     ·exact hne h
     ·omega
    rw[h1];simp[h2]
 ·have h1:belowF l k (m+1) x=belowF l k m x:=by
   unfold belowF
   congr 1
   rw[eq_iff_iff];constructor
   ·rintro(h|⟨a,b,c⟩)
    ·exact .inl h
    ·exact .inr ⟨a,by omega,c⟩
   ·rintro(h|⟨a,b,c⟩)
    ·exact .inl h
    ·exact .inr ⟨a,by omega,c⟩
  rw[h1];cases upB l k m<;>simp[upd,e]
theorem belowF_par{l:List TileD}(hp:parentsB l=true)(k m:Nat)(hm:m<l.length):(decide (0≤parL l m)&&(belowF l k m (parL l m)).isSome)=upB l k m:=by
 have h1:=(parentsB_iff l).1 hp m hm
 unfold upB
 by_cases h0:0≤parL l m
 ·rw[decide_eq_true h0,Bool.true_and,Bool.true_and];unfold belowF;by_cases hd:descB l k (parL l m).toNat=true
  ·rw[if_pos (.inr ⟨h0,by omega,hd⟩),hd];rfl
  ·rw[if_neg]
   ·have:descB l k (parL l m).toNat=false:=by simpa using hd
    rw[this];rfl
   ·rintro(h|⟨_,_,h⟩)
    ·rw[h,Int.toNat_natCast,descB_self] at hd;exact hd rfl
    ·exact hd h
 ·rw[decide_eq_false h0];rfl
theorem compact_inv(d:Array Int)(hs:∀i,i+1<d.size→d[i]!≤d[i+1]!):∀m,m≤d.size→(Lib.compactUpTo d m).Pairwise (· < ·)∧(∀y,y∈Lib.compactUpTo d m↔∃j,j<m∧d[j]! =y)∧(0<m→∀y∈Lib.compactUpTo d m,y≤d[m-1]!):=by
 intro m
 induction m with
 |zero=>intro _;refine⟨by simp[Lib.compactUpTo],fun y=>⟨fun h=>by simp[Lib.compactUpTo] at h,fun⟨j,h,_⟩=>by omega⟩,fun h=>by omega⟩
 |succ m ih=>
  intro hm;obtain⟨h1,h2,h3⟩:=ih (by omega);rw[Lib.compactUpTo_succ];have hle:0<m→∀y∈Lib.compactUpTo d m,y≤d[m]!:=fun h0 y hy=>by
   have:=h3 h0 y hy;have h4:=hs (m-1) (by omega);rw[show m-1+1=m by omega] at h4;omega
  by_cases hk:Lib.keeps d m=true
  ·rw[if_pos hk];have hlt:∀y∈Lib.compactUpTo d m,y<d[m]!:=fun y hy=>by
    have h0:0<m:=by
     rcases Nat.eq_zero_or_pos m with e|e
     ·subst e;simp[Lib.compactUpTo] at hy
     ·exact e
    simp only[Lib.keeps,decide_eq_true_eq] at hk;have hk:=hk.resolve_left (by omega);have:=h3 h0 y hy;have h4:=hs (m-1) (by omega);rw[show m-1+1=m by omega] at h4;omega
   refine⟨?_,fun y=>?_,fun _ y hy=>?_⟩
   ·rw[List.pairwise_append];exact⟨h1,by simp,fun y hy z hz=>by simp at hz;subst hz;exact hlt y hy⟩
   ·rw[List.mem_append,h2];constructor
    ·rintro(⟨j,hj,e⟩|h)
     ·exact⟨j,by omega,e⟩
     ·simp at h;exact⟨m,by omega,h.symm⟩
    ·rintro⟨j,hj,e⟩;by_cases hjm:j=m
     ·subst hjm;exact .inr (by simp[e])
     ·exact .inl ⟨j,by omega,e⟩
   ·rcases List.mem_append.1 hy with hy|hy
    ·have:=hlt y hy;simp;omega
    ·simp at hy;subst hy;simp
  ·rw[if_neg hk,List.append_nil];have hk':m≠0∧d[m]! =d[m-1]!:=by
    simp only[Lib.keeps,decide_eq_true_eq,not_or] at hk;exact⟨hk.1,Classical.not_not.1 hk.2⟩
   refine⟨h1,fun y=>?_,fun _ y hy=>by have:=hle (by omega) y hy;simpa using this⟩;rw[h2];constructor
   ·rintro⟨j,hj,e⟩;exact⟨j,by omega,e⟩
   ·rintro⟨j,hj,e⟩;by_cases hjm:j=m
    ·subst hjm;exact⟨j-1,by omega,by rw[←hk'.2,e]⟩
    ·exact⟨j,by omega,e⟩
theorem compact_sort(xs:List Int):Lib.compact (xs.mergeSort fun x y=>decide (x≤y))=sortD xs:=by
 have hp:=List.mergeSort_perm xs fun x y=>decide (x≤y)
 have hso:=List.pairwise_mergeSort (le:=fun x y:Int=>decide (x≤y)) (fun a b c h1 h2=>by simp at *;omega) (fun a b=>by simp;omega) xs
 generalize xs.mergeSort (fun x y=>decide (x≤y))=ys at*
 have hs:∀i,i+1<ys.toArray.size→ys.toArray[i]!≤ys.toArray[i+1]!:=fun i hi=>by
  have hi':i+1<ys.length:=by simpa using hi
  have:=List.pairwise_iff_getElem.1 hso i (i+1) (by omega) hi' (by omega);simp at this;simp[show i<ys.length by omega,hi'];exact this
 have h:=compact_inv ys.toArray hs ys.length (by simp)
 refine sorted_eq _ _ h.1 (sorted_sortD xs) fun y=>?_
 rw[mem_sortD,←hp.mem_iff]
 show y∈Lib.compactUpTo ys.toArray ys.length↔_
 rw[h.2.1]
 constructor
 ·rintro⟨j,hj,rfl⟩;simp[hj]
 ·intro hy;obtain⟨j,hj,e⟩:=List.mem_iff_getElem.1 hy;exact⟨j,hj,by simp[hj,e]⟩
end

section
open Go.RowKit
theorem zero_int(w:World):(zeroValue 3).run Tryz.prog w=.ok (.int .i64 0) w:=by kernel_rfl
def AllJ(w:World)(ls:List TileR)(k m M:Nat)(v:Value)(wr:World):Prop:=
 IMap wr M (belowF (tdOf ls) k m)∧OwnI wr (M+1) v (rawL (tdOf ls) k m)∧Below w.heap.size w wr∧w.heap.size≤M∧M<wr.heap.size
theorem all_any(a:Option Addr)(n c:Nat)(ls:List TileR)(k:Int)(w:World)(h:TilesOK w a n ls)(hk:I64 k)(hT:totL (tdOf ls)≤1000000):
  Calls Tryz.prog 78 #[.slice a n c,.int .i64 k] w (IntsPost w (allL (tdOf ls) k)):=by
 have hn:=h.1.2.1
 have HL:=Lib.hid h.1.1
 have H:=Lib.hid h
 obtain⟨hk1,hk2⟩:=hk
 clear h
 by_cases hr:0≤k∧k<n
 rotate_left
 ·have HE:Hid (allL (tdOf ls) k= []):=by
   rw[Hid,allL,if_neg];rw[tdOf_len,HL.out];exact fun h=>hr ⟨h.1,h.2.1⟩
  by_cases h0:k<0
  all_goals
   go_enter Tryz.func78,Tryz.ntmps78
   go_wp2
   go_ret
   rw[HE.out];exact⟨_,rfl,OwnI.nil _ _,Below.refl _ _⟩
 obtain⟨hr1,hr2⟩:=hr
 have hr3:¬k<0:=by omega
 obtain⟨kn,rfl⟩:∃kn:Nat,k=(kn:Int):=⟨k.toNat,by omega⟩
 by_cases hp:parentsB (tdOf ls)=true
 rotate_left
 ·have HE:Hid (allL (tdOf ls) (kn:Int)= []):=by
   rw[Hid,allL,if_neg];exact fun h=>hp h.2.2
  have hp':parentsB (tdOf ls)=false:=by simpa using hp
  have HP:=Lib.hid hp';clear hp hp'
  go_enter Tryz.func78,Tryz.ntmps78
  go_wp2_with (go_at_call 73;refine(parents_any a n c ls w H.out).mono ?_;rintro e w1 ⟨rfl,hb⟩;rw[HP.out];have HB:=Lib.hid hb;clear hb)
  go_ret
  rw[HE.out];exact⟨_,rfl,OwnI.nil _ _,HB.out⟩
 have HP:=Lib.hid hp
 have hkl:kn<ls.length:=by rw[HL.out];omega
 have HEA:Hid (allL (tdOf ls) (kn:Int)=sortD (rawL (tdOf ls) kn (tdOf ls).length)):=by
  rw[Hid,allL,if_pos ⟨by omega,by rw[tdOf_len];omega,hp⟩,Int.toNat_natCast]
 clear hp
 have hmm:= @run_makeMap Tryz.prog
 go_enter Tryz.func78,Tryz.ntmps78
 go_upto_region 3 with (first
  |(go_at_call 73
    refine(parents_any a n c ls w H.out).mono ?_;rintro e w1 ⟨rfl,hb⟩;rw[HP.out];have HB:=Lib.hid hb
    clear hb))
 obtain⟨o0,hput0,hmap0⟩:=IMap.put (P:=Tryz.prog) (IMap.made w1) Tryz.underlying104 Tryz.underlying3 (kn:Int) (.int .i64 1)
 rw[belowF_zero (tdOf ls)] at hmap0
 have HM0:=Lib.hid hmap0
 clear hmap0
 go_upto_region 4 with (fail)
 obtain⟨W,hW⟩:∃W,W=(w1.alloc (.map #[] 0)).putObj w1.heap.size o0:=⟨_,rfl⟩
 rw[←hW]
 rw[←hW] at HM0
 have hWB:Below w1.heap.size w1 W:=by rw[hW];exact((Below.refl _ w1).alloc (Nat.le_refl _) _).grown (grownBy_putObj' _ w1.heap.size o0) (by simp) (fun k e=>by cases e;exact Nat.le_refl _)
 have hWs:W.heap.size=w1.heap.size+1:=by rw[hW];simp
 have HWB:=Lib.hid hWB
 have HWs:=Lib.hid hWs
 obtain⟨t,b,o,hlk,hok,rfl,c0,c1,c2⟩:=((H.out.ext HB.out).ext hWB).cells (k:=kn) (by omega)
 have HTK:Hid (blkL (tdOf ls) kn=t.d.blocks):=by rw[Hid,blkL,tdOf_at ls kn t hlk]
 have HOK:=Lib.hid hok.1
 clear hput0 hmm hW hWB hWs hlk hok
 go_upto_region 5 with (first
  |(go_at_call 172
    refine(cloneInts_any t.ba t.bn t.bc t.d.blocks W HOK.out).mono ?_;rintro e w2 ⟨v,rfl,ho,hb⟩;have HO:=Lib.hid ho;have HB2:=Lib.hid hb
    clear ho hb))
 have HJ0:Hid (AllJ w ls kn 0 w1.heap.size v w2):=by
  refine⟨HM0.out.ext HB2.out,?_,ext_trans (ext_trans HB.out HWB.out) HB2.out,HB.out.size,?_⟩
  ·have h1:=HO.out.mono (base':=w1.heap.size+1) (by rw[HWs.out];omega);rw[rawL_zero,HTK.out];exact h1
  ·have:=HB2.out.size;rw[HWs.out] at this;omega
 generalize w1.heap.size=M at*
 clear c0 c1 c2 HOK HTK HO HB2 HM0 HWB HWs HB
 go_wp2
 go_loopg [6,33] n (fun gg s6 s33 wr=>∃(m:Nat),s33=.int .i64 (m:Int)∧m≤n∧n≤gg+m∧Hid (AllJ w ls kn m M s6 wr))
 case atStart=>exact⟨0,rfl,Nat.zero_le _,Nat.le_refl _,HJ0⟩
 case round=>
  obtain⟨m,rfl,hm,hgg,HJ⟩:=hrel;clear HJ0;by_cases hlt:m<n
  ·have hml:m<(tdOf ls).length:=by rw[tdOf_len,HL.out];exact hlt
   have hkl2:kn<(tdOf ls).length:=by rw[tdOf_len];exact hkl
   obtain⟨t,b2,o2,hlk,hok,e2,c0',c1',c2'⟩:=H.out.cells hlt;have c0:=cell_ext HJ.out.2.2.1 c0';have c1:=cell_ext HJ.out.2.2.1 c1';have c2:=cell_ext HJ.out.2.2.1 c2';clear c0' c1' c2';injection e2 with e2;injection e2 with e2 e3;subst e2 e3;have htd:=tdOf_at ls m t hlk;have HTP:Hid (parL (tdOf ls) m=t.d.parent):=by rw[Hid,parL,htd]
   have HTB:Hid (blkL (tdOf ls) m=t.d.blocks):=by rw[Hid,blkL,htd]
   have HRS:=Lib.hid (rawL_step HP.out kn m hkl2 hml);have HBS:=Lib.hid (belowF_step HP.out kn m hkl2 hml);have HBP:=Lib.hid (belowF_par HP.out kn m hml);have HRL:=Lib.hid (rawL_len (tdOf ls) kn m (by omega));have HOK:=Lib.hid hok.1;have hp1:=hok.2.2.2.1;have hp2:=hok.2.2.2.2;have hbl:t.d.blocks.length=t.bn:=hok.1.1;have hble:=blkL_le (tdOf ls) m;rw[HTB.out,hbl] at hble;have HBL:=Lib.hid hbl;clear hlk htd hok hbl;go_upto_region 8 with (fail)
   obtain⟨W1,hW1⟩:∃W1,W1=wr.alloc (tileO t):=⟨_,rfl⟩
   rw[←hW1];have hB1:Below wr.heap.size wr W1:=by rw[hW1];exact ext_alloc _ _
   have hx1:W1.heap[wr.heap.size]? =some (tileO t):=by rw[hW1,heap_alloc_new]
   have d1:W1.cell? ⟨wr.heap.size,1,none⟩=some (.int .i64 t.d.parent):=by rw[cell_of_row _ _ _ _ _ _ hx1];rfl
   have d2:W1.cell? ⟨wr.heap.size,2,none⟩=some (.slice t.ba t.bn t.bc):=by rw[cell_of_row _ _ _ _ _ _ hx1];rfl
   have HIM:=Lib.hid (HJ.out.1.ext hB1);have HO:=Lib.hid (HJ.out.2.1.ext hB1);have HBW:=Lib.hid (ext_trans HJ.out.2.2.1 hB1);have hMs:M<W1.heap.size:=by have:=HJ.out.2.2.2.2;have:=hB1.size;omega
   have hwM:=HJ.out.2.2.2.1;have hqM:M<wr.heap.size:=HJ.out.2.2.2.2;have hlk:=IMap.look (w:=W1) (P:=Tryz.prog) HIM.out Tryz.underlying104 Tryz.underlying3 (zero_int _) t.d.parent;have HX1:=Lib.hid hx1;have HB1:=Lib.hid hB1;clear hW1 hx1 hB1 c0 c1 c2 HJ;generalize hq:wr.heap.size=q at *;clear hq;have HUP:Hid ((decide (0≤t.d.parent)&&(belowF (tdOf ls) kn m t.d.parent).isSome)=upB (tdOf ls) kn m):=by rw[Hid,←HTP.out];exact HBP.out
   have HLK:Hid (∀x,belowF (tdOf ls) kn m x=none∨belowF (tdOf ls) kn m x=some (.int .i64 1)):=fun x=>by
    unfold belowF;by_cases hc:x=kn∨(0≤x∧x<m∧descB (tdOf ls) kn x.toNat=true)
    ·exact .inr (if_pos hc)
    ·exact .inl (if_neg hc)
   cases hu:upB (tdOf ls) kn m with
   |false=>
    have HN:Hid (AllJ w ls kn (m+1) M u6 W1):=by
     refine⟨?_,?_,HBW.out,hwM,hMs⟩
     ·rw[HBS.out,hu];exact HIM.out
     ·rw[HRS.out,hu];exact HO.out
    have hu2:=HUP.out;rw[hu] at hu2;by_cases h0:0≤t.d.parent
    ·have hno:belowF (tdOf ls) kn m t.d.parent=none:=by
      rcases HLK.out t.d.parent with e|e
      ·exact e
      ·rw[e,decide_eq_true h0] at hu2;cases hu2
     rw[hno] at hlk;simp only[Option.getD_none] at hlk;clear hu2 hu hno;go_wp2
     go_roundg (n-(m+1))
     case measure=>omega
     case rel=>exact⟨m+1,by go_num,by omega,by omega,HN⟩
    ·clear hu2 hu hlk;go_wp2
     go_roundg (n-(m+1))
     case measure=>omega
     case rel=>exact⟨m+1,by go_num,by omega,by omega,HN⟩
   |true=>
    have hu2:=HUP.out;rw[hu] at hu2;have h0:0≤t.d.parent:=by
     by_cases h0:0≤t.d.parent
     ·exact h0
     ·rw[decide_eq_false h0] at hu2;cases hu2
    have hyes:belowF (tdOf ls) kn m t.d.parent=some (.int .i64 1):=by
     rcases HLK.out t.d.parent with e|e
     ·rw[e,decide_eq_true h0] at hu2;cases hu2
     ·exact e
    rw[hyes] at hlk;simp only[Option.getD_some] at hlk;obtain⟨o1,hput1,hmap1⟩:=IMap.put (P:=Tryz.prog) HIM.out Tryz.underlying104 Tryz.underlying3 (m:Int) (.int .i64 1);have hgp:=grownBy_putObj' W1 M o1;have HIM2:Hid (IMap (W1.putObj M o1) M (belowF (tdOf ls) kn (m+1))):=by rw[Hid,HBS.out,hu];exact hmap1
    have HR2:Hid (rawL (tdOf ls) kn (m+1)=rawL (tdOf ls) kn m++t.d.blocks):=by rw[Hid,HRS.out,hu,←HTB.out];rfl
    have hlow:∀r,u6.ownBlock=some r→M+1≤r:=fun r e=>(HO.out.1.lt r e).1
    have HO2:=Lib.hid (HO.out.kept hgp (by
     cases e:u6.ownBlock with
     |none=>exact .inl rfl
     |some r=>exact .inr fun e2=>by injection e2 with e2;have:=hlow r e;omega))
    have HBW2:=Lib.hid (HBW.out.grown hgp (by omega) (fun r e=>by cases e;exact hwM));have hx2:(W1.putObj M o1).heap[q]? =some (tileO t):=(World.putObj_heap_other (by omega)).trans HX1.out;have d3:(W1.putObj M o1).cell? ⟨q,2,none⟩=some (.slice t.ba t.bn t.bc):=by rw[cell_of_row _ _ _ _ _ _ hx2];rfl
    have HI2:Hid (Ints (W1.putObj M o1) t.ba t.bn t.d.blocks):=HOK.out.ext HBW2.out;have hsz2:(W1.putObj M o1).heap.size=W1.heap.size:=by simp
    obtain⟨av,cv,hv⟩:=HO.out.form;have hrl:=HRL.out;have hh:=HO.out.2.1;clear hu2 hu hyes hmap1 hgp hx2;have HHH:=Lib.hid hh;clear hh
    go_wp2_with (
     (at_builtin
      refine wpList_appendR (W1.putObj M o1) rfl (.tmp 50) (.tmp 52) 22 3 rfl (M+1) _ 1 8 Tryz.underlying22 infoI rfl (by omega) u6 (rawL (tdOf ls) kn m).length _ rfl HO2.out.1 t.ba t.bn t.bc rfl (intVals t.d.blocks) (by rw[intVals_len,HBL.out,Nat.mul_one]) HI2.out.news (intVals_one _) (by simp only[maxLen];omega) (by omega) (by simp;omega) ?_;intro v3 w3 ho3 hg3 hv3;have HO3:=Lib.hid ho3;have HG3:=Lib.hid hg3
      clear ho3 hg3 hv3))
    go_roundg (n-(m+1))
    case measure=>omega
    case rel=>
     refine⟨m+1,by go_num,by omega,by omega,HIM2.out.grown HG3.out (fun e=>by have:=hlow M e.symm;omega),?_,HBW2.out.grown HG3.out (by rw[hsz2];omega) (fun r e=>by have:=hlow r e;omega),hwM,by have:=HG3.out.size;rw[hsz2] at this;omega⟩;rw[HR2.out];refine⟨?_,?_,by rw[List.length_append,HBL.out];omega⟩
     ·have e3:(rawL (tdOf ls) kn m++t.d.blocks).length=(rawL (tdOf ls) kn m).length+t.bn:=by rw[List.length_append,HBL.out]
      have e4:intVals (rawL (tdOf ls) kn m++t.d.blocks)=intVals (rawL (tdOf ls) kn m)++intVals t.d.blocks:=by simp[intVals]
      rw[e3,e4];exact HO3.out
     ·intro z hz;rcases List.mem_append.1 hz with hz|hz
      ·exact HHH.out z hz
      ·exact HOK.out.mem z hz
  ·obtain rfl:m=n:=by omega
   have HJ1:=HJ.out.2.1;have HJ2:=Lib.hid HJ.out.2.2;have HO:=Lib.hid HJ1;clear HJ1 HJ
   go_wp2_with (first
    |(go_at_call 174
      refine(compactI_any _ _ _ w4 HO4.out).mono ?_;rintro e w5 ⟨v5,rfl,ho,hg⟩;have HO5:=Lib.hid ho;have HG5:=Lib.hid hg
      clear ho hg)
    |(go_at_call 173
      refine(sortI_any _ _ _ wr HO.out).mono ?_;rintro e w4 ⟨rfl,ho,hg⟩;have HO4:=Lib.hid ho;have HG4:=Lib.hid hg
      clear ho hg))
   go_ret
   have e1:(tdOf ls).length=m:=by rw[tdOf_len,HL.out]
   rw[HEA.out,e1,←compact_sort];have hlow:∀r,u6.ownBlock=some r→M+1≤r:=fun r e=>(HO.out.1.lt r e).1;have hs4:=HG4.out.size;refine⟨_,rfl,HO5.out.mono (by have:=HJ2.out.2.1;omega),(HJ2.out.1.grown HG4.out HJ2.out.1.size (fun r e=>by have:=hlow r e;have:=HJ2.out.2.1;omega)).grown HG5.out (by have:=HJ2.out.1.size;omega) (fun r e=>by have:=hlow r e;have:=HJ2.out.2.1;omega)⟩
end
end Go.Proofs.YthgebcfohnlhlaaGreatDoor
