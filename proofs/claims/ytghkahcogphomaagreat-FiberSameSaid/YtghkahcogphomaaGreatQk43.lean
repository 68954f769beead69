/- Fibers: a part of the walk. No condition. -/
import Derived.Test.YtghkahcogphomaaGreatQk42
set_option linter.all false
namespace Go.Proofs.YtghkahcogphomaaGreat
section
open Go.ChangeShapes Go.WideShapes Go.RowKit
variable{w w':World}{X X':List Nat}{s t:SV}{L:List BV}{x y:BV}{k:PK}
theorem cutP_capL(a:List PF)(q:PF):cutP (q::a.reverse)=(capL a q).reverse:=by
 unfold cutP capL;simp only;by_cases h1:deepP q.h=true
 ·rw[if_pos h1,if_pos h1];simp
 ·rw[if_neg h1,if_neg h1];by_cases h2:q.fr=[]∧a≠[]
  ·rw[if_pos ⟨h2.1,by simpa using h2.2⟩,if_pos h2]
  ·rw[if_neg (fun hc=>h2 ⟨hc.1,by simpa using hc.2⟩),if_neg h2];simp
theorem doc_capture(w:World)(n:Int)(h:MdR X w s t k)(hX: ∀z,z∈X→z<w.heap.size)(hf:Fit k)(ht:FitT k):
 Calls Tryz.prog 37 #[.agg #[.slice s.a s.n s.cap,.slice t.a t.n t.cap],.int .i64 n] w fun e w'=> ∃s' t':SV,e=.returned (.tuple #[.agg #[.slice s'.a s'.n s'.cap,.slice t'.a t'.n t'.cap],.bool (capM n k).isSome])∧MdR X w' s' t' ((capM n k).getD k)∧Fr [] w w':=by
 have hsn:=md_fs h;have hkn:=hf.1;by_cases hi:n<0∨(k.fs.length:Int)-1≤n
 ·refine(mcap_no w n _ _ _ _ _ _ (by rw[hsn];exact hi) (by omega)).mono ?_;rintro e w' ⟨rfl,hF⟩;have:capM n k=none:=by unfold capM;rw[if_pos hi]
  rw[this];exact⟨s,t,rfl,h.keep hF,hF⟩
 ·obtain⟨up,rfl⟩: ∃up:Nat,n=up:=⟨n.toNat,by omega⟩;obtain⟨L,hL,hb⟩:=h.f;obtain⟨Q,hQ,hq⟩:=h.t;have hll:L.length=k.fs.length:=by have:=congrArg List.length hL;simpa using this
  obtain⟨m,hm⟩: ∃m,m=k.fs.length-1-up:=⟨_,rfl⟩;obtain⟨g,o,h1,h2,hB⟩:=BsR.drop hb hll (m:=m) (by omega);have hkr:s.n=m+(up+1):=by omega
  rw[show k.fs.length-m=up+1 by omega]at hB;have htl:t.n=k.tk.length:=md_tk h;have hQl:Q.length=t.n:=hq.1.ne.symm;have hle:=ht.1;have NW3:=news_at hq.1;rw[hQl]at NW3;have hts:=flat_len QV.cells 2 QV.len Q;rw[hQl]at hts
  obtain⟨a,q,rest,hfs,hal⟩: ∃a q rest,k.fs=a++q::rest∧a.length=up:=by
   refine⟨k.fs.take up,k.fs[up]'(by omega),k.fs.drop (up+1), ?_,by simp;omega⟩;rw[←List.drop_eq_getElem_cons,List.take_append_drop]
  have hrl:rest.length=m:=by have:=congrArg List.length hfs;simp at this;omega
  have hM:capM (up:Int) k=some ⟨rest,k.tk++[some (capL a q)]⟩:=by
   unfold capM;rw[if_neg hi,Int.toNat_natCast,hfs,List.drop_left' hal,List.take_left' hal]
  have hrev:k.fs.reverse=rest.reverse++(q::a.reverse):=by rw[hfs];simp
  have hBp:(L.drop m).map BV.p=q::a.reverse:=by
   rw[List.map_drop,hL,hrev,List.drop_left' (by simpa using hrl)]
  have hAp:(L.take m).map BV.p=rest.reverse:=by
   rw[List.map_take,hL,hrev,List.take_left' (by simpa using hrl)]
  have hb':=hb;have hcp:=hb.1.cp;rw[show s=⟨some ⟨g,o,none⟩,s.n,s.cap⟩ by rw[←h1]]at hb';rw[h1];refine(mcap_yes w m up (up+1) g o s.n s.cap t.a t.n t.cap L (L.drop m) hb' hB hX (by omega) rfl hkr hcp.1 hcp.2 (by omega) (by omega) ?_ (Q.flatMap QV.cells) hts NW3 (Lib.hid (zl _ QV.one _))).mono ?_
  ·intro z hz;have hzL:=List.mem_of_mem_drop hz
   have hzp:z.p∈k.fs:=by
    have:z.p∈L.map BV.p:=List.mem_map.2 ⟨z,hzL,rfl⟩;rw[hL]at this;simpa using this
   exact fitP_sz (hf.2 _ hzp) (hb.2 z hzL) rfl
  ·rintro e w' ⟨g1,c1,g2,c2,sl,Z,rfl,o1,z1,z2,o2,hF⟩;rw[hM];rw[flat_take _ 6 BV.len _ _ (by omega)]at o1;refine⟨⟨some ⟨g1,0,none⟩,m,c1⟩,⟨some ⟨g2,0,none⟩,t.n+1,c2⟩,rfl,⟨⟨L.take m,hAp, ?_, ?_⟩,⟨Q++[⟨some (capL a q),Z,sl⟩], ?_, ?_, ?_⟩⟩,hF⟩
   ·have hl:(L.take m).length=m:=by rw[List.length_take];omega
    rw[hl];exact Rd.of_own o1 (zl _ BV.one _) hX
   ·intro z hz;exact(hb.2 z (List.mem_of_mem_take hz)).fr (S:=[]) hF (fun x hx=>nomatch hx)
   ·rw[List.map_append,hQ];rfl
   ·rw[List.length_append,List.length_singleton,hQl,List.flatMap_append];exact Rd.of_own o2 (by rw[←List.flatMap_append];exact zl _ QV.one _) hX
   ·intro z hz;rcases List.mem_append.1 hz with hz|hz
    ·exact(hq.2 z hz).fr (S:=[]) hF (fun x hx=>nomatch hx)
    ·simp at hz;subst hz;exact⟨by rw[z2,hBp,cutP_capL],z1⟩
def lsP(p:PF):List Int:=match p.h with|none=>[]|some H=>H.ls
def psP(p:PF):List Int:=match p.h with|none=>[]|some H=>H.ps
theorem fndP_cons(label:Int)(p:PF)(l:List PF)(up:Nat):fndP label (p::l) up=match idxL label (lsP p) 0 with|none=>fndP label l (up+1)|some i=>some (up,i):=by
 unfold lsP;cases hp:p.h with
 |none=>rw[fndP,hp];rfl
 |some H=>rw[fndP,hp];simp only;cases idxL label H.ls 0<;>rfl
theorem idxL_hit(label:Int)(l:List Int)(m:Nat)(h:l[m]? =some label):idxL label (l.drop m) m=some m:=by
 rw[List.drop_eq_getElem_cons (by rcases Nat.lt_or_ge m l.length with h1|h1;exact h1;rw[List.getElem?_eq_none h1]at h;cases h)];unfold idxL;rw[if_pos];rw[List.getElem?_eq_some_iff]at h;exact h.2
theorem idxL_miss(label:Int)(l:List Int)(m:Nat)(z:Int)(h:l[m]? =some z)(hz:z≠label):idxL label (l.drop m) m=idxL label (l.drop (m+1)) (m+1):=by
 rw[List.drop_eq_getElem_cons (by rcases Nat.lt_or_ge m l.length with h1|h1;exact h1;rw[List.getElem?_eq_none h1]at h;cases h)];rw[idxL,if_neg];rw[List.getElem?_eq_some_iff]at h;obtain⟨h1,h2⟩:=h;rw[h2];exact hz
theorem hv_ls{h:BV.Ok X w x}:WsR X w x.l (lsP x.p)∧WsR X w x.q (psP x.p):=by
 have:=h.h;unfold lsP psP;cases hp:x.p.h with
 |none=>rw[hp]at this;obtain⟨h1,h2⟩:=this;rw[h1,h2];exact⟨WsR.nil,WsR.nil⟩
 |some H=>rw[hp]at this;exact this
def LenHs(fs:List PF):Prop:= ∀p,p∈fs→(lsP p).length=(psP p).length
theorem el_hand{wr:World}{q:Nat}(h:BsR X w s L)(hx:L[q]? =some x)(hF:Fr [] w wr):
 ∃(gm om:Nat) (la qa:Option Addr) (lc qc:Nat) (dp:Bool) (ret:Int),s.a=some ⟨gm,om,none⟩∧gm<wr.heap.size∧
  wr.cell? ⟨gm,om+q*6+2,none⟩=some (.bool dp)∧wr.cell? ⟨gm,om+q*6+3,none⟩=some (.int .u64 ret)∧wr.cell? ⟨gm,om+q*6+4,none⟩=some (.slice la (lsP x.p).length lc)∧wr.cell? ⟨gm,om+q*6+5,none⟩=some (.slice qa (psP x.p).length qc)∧
  Hid (∀W,Fr [] wr W→∀m z,(lsP x.p)[m]? =some z→∃g o,la=some ⟨g,o,none⟩∧g<W.heap.size∧W.cell? ⟨g,o+m,none⟩=some (.int .u64 z))∧
  Hid (∀W,Fr [] wr W→∀m z,(psP x.p)[m]? =some z→∃g o,qa=some ⟨g,o,none⟩∧g<W.heap.size∧W.cell? ⟨g,o+m,none⟩=some (.int .u64 z)):=by
 obtain⟨gm,om,h1,h2,a0,a1,a2,a3,a4,a5⟩:=h.el hx;have hok:=h.2 x (List.mem_of_getElem? hx);obtain⟨l1,l2⟩:=hv_ls (h:=hok);have e1:=l1.ne;have e2:=l2.ne;refine⟨gm,om,x.l.a,x.q.a,x.l.cap,x.q.cap,x.deep,x.ret,h1,Nat.lt_of_lt_of_le h2 hF.size,zd a2 hF (by simp),zd a3 hF (by simp), ?_, ?_,Lib.hid fun W hW m z hz=> ?_,Lib.hid fun W hW m z hz=> ?_⟩
 ·rw[←e1];exact zd a4 hF (by simp)
 ·rw[←e2];exact zd a5 hF (by simp)
 ·exact WsR.el (Rd.fr (S:=[]) l1 (hF.trans hW (by simp)) (by simp)) hz
 ·exact WsR.el (Rd.fr (S:=[]) l2 (hF.trans hW (by simp)) (by simp)) hz
theorem findW_some(label:Int)(fs:List PF)(u i:Nat)(p:PF)(h:fndP label fs 0=some (u,i))(hp:fs[u]? =some p)(v:Int)(hv:(psP p)[i]? =some v):findW label fs=.tuple #[.int .i64 (u:Int),.int .u64 v,.bool true]:=by
 unfold findW;rw[h];simp only[hp,Option.bind_some];unfold psP at hv;cases hh:p.h with
 |none=>rw[hh]at hv;simp at hv
 |some H=>rw[hh]at hv;simp[hv]
set_option maxRecDepth 100000 in
set_option maxHeartbeats 2000000 in
theorem mfind(w:World)(label:Int)(ka:Option Addr)(kn kc:Nat)(ta:Option Addr)(tn tc:Nat)(L:List BV)(hL:BsR X w ⟨ka,kn,kc⟩ L)(fs:List PF)(hfs:L.map BV.p=fs.reverse)(hlen:LenHs fs)(hkn:kn≤1000000)(hll: ∀p,p∈fs→(lsP p).length≤1000000):
 Calls Tryz.prog 36 #[.agg #[.slice ka kn kc,.slice ta tn tc],.int .u64 label] w fun e w'=>e=.returned (findW label fs)∧Fr [] w w':=by
 have HL:=Lib.hid hL;have HN:Hid (L.length=kn):=Lib.hid hL.1.ne.symm;have HFS:=Lib.hid hfs;have HLEN:=Lib.hid hlen;have HLL:=Lib.hid hll;have HFN:Hid (fs.length=kn):=Lib.hid (by have:=congrArg List.length hfs;rw[List.length_map,List.length_reverse,HN.out]at this;exact this.symm);clear hL hfs hlen hll;obtain⟨W2,hW2⟩: ∃W,W=w.alloc (.cells #[.slice ka kn kc,.slice ta tn tc] 40):=⟨_,rfl⟩;have FW2:Hid (Fr [] w W2):=Lib.hid (by rw[hW2];exact(Fr.refl _ _).alloc _);have PW2:Hid (blk W2 w.heap.size=some (.cells #[.slice ka kn kc,.slice ta tn tc] 40 (0,0))):=Lib.hid (by rw[hW2,zB,if_pos rfl]);obtain⟨pb,hpb⟩: ∃pb,pb=w.heap.size:=⟨_,rfl⟩;rw[←hpb]at PW2;have p0:=zA PW2.out (i:=0) rfl;go_enter Tryz.func36,Tryz.ntmps36;go_upto_region 1 with fail
 rw[←hW2]
 try rw[←hpb]
 clear hW2 hpb;go_upto_region 2 with fail
 clear p0;go_loopw [7] (fun i wr=> ∃r:Nat,r≤kn∧i=.int .i64 ((r:Int)-1)∧Hid (fndP label fs 0=fndP label (fs.drop (kn-r)) (kn-r))∧Hid (Fr [] w wr)∧Hid (blk wr pb=some (.cells #[.slice ka kn kc,.slice ta tn tc] 40 (0,0)))) (fun y _=>(intOf y+1).toNat)
 case atStart=>exact⟨kn,Nat.le_refl _,rfl,Lib.hid (by simp),FW2,PW2⟩
 case round=>
  obtain⟨r,hr,rfl,hI,hF,hP⟩:=hrel;clear FW2 PW2;cases r with
  |zero=>
   have FIN:Hid (findW label fs=.tuple #[.int .i64 0,.int .u64 45,.bool false]):=Lib.hid (by
    have:=hI.out;rw[Nat.sub_zero,List.drop_eq_nil_of_le (by rw[HFN.out];exact Nat.le_refl _)]at this;unfold findW;rw[this];rfl)
   clear hI;go_wp2_with (go_at_call 38;refine(none20_c _).mono ?_;rintro e w' ⟨rfl,rfl⟩);go_ret3;rw[FIN.out];exact⟨rfl,hF.out⟩
  |succ q=>
   obtain⟨x,hx⟩: ∃x,L[q]? =some x:=⟨L[q]'(by rw[HN.out];omega),by simp⟩
   have hxp:fs[kn-(q+1)]? =some x.p:=by
    have h1:(L.map BV.p)[q]? =some x.p:=by rw[List.getElem?_map,hx];rfl
    rw[HFS.out,List.getElem?_reverse (by rw[HFN.out];omega),HFN.out]at h1;rw[←h1];congr 1;omega
   obtain⟨gm,om,la,qa,lc,qc,dp,ret,hka,hgl,a2,a3,a4,a5,RL,RP⟩:=el_hand HL.out hx hF.out;have hka':ka=some ⟨gm,om,none⟩:=hka;have hmem:x.p∈fs:=List.mem_of_getElem? hxp;have hle:=HLEN.out x.p hmem;have hlb:=HLL.out x.p hmem;have HXP:=Lib.hid hxp;rw[←hle]at a5;have HLE:=Lib.hid hle;obtain⟨ln,hln⟩: ∃ln,ln=(lsP x.p).length:=⟨_,rfl⟩;rw[←hln]at a4 a5 hlb;have HLN:=Lib.hid hln;have HKA:=Lib.hid hka';have hv:((q+1:Nat):Int)-1=(q:Int):=by omega
   rw[hv];have c0:decide (0≤(q:Int))=true:=by simp
   rw[hka']at hP⊢;clear hka hka' hx hxp hmem hle hln;have k0:=zA hP.out (i:=0) rfl;have hqk:q<kn:=by omega
   go_upto_region 5 with fail
   obtain⟨W3,hW3⟩: ∃W,W=wr.alloc (.cells #[.bool dp,.int .u64 ret,.slice la ln lc,.slice qa ln qc] 72):=⟨_,rfl⟩;obtain⟨kh,hkh⟩: ∃k,k=wr.heap.size:=⟨_,rfl⟩;have F3:Hid (Fr [] wr W3):=Lib.hid (by rw[hW3];exact(Fr.refl _ _).alloc _);have PH:Hid (blk W3 kh=some (.cells #[.bool dp,.int .u64 ret,.slice la ln lc,.slice qa ln qc] 72 (0,0))):=Lib.hid (by rw[hW3,hkh,zB,if_pos rfl]);have PK3:=Lib.hid (F3.out.at hP.out (by simp));rw[←hW3]
   try rw[←hkh]
   clear hW3 hkh k0 a2 a3 a4 a5 hgl;have h2:=zA PH.out (i:=2) rfl;have h3:=zA PH.out (i:=3) rfl;have k0:=zA PK3.out (i:=0) rfl;go_upto_region 6 with fail
   go_loopw [28] (fun y wz=> ∃m:Nat,m≤ln∧y=.int .i64 (m:Int)∧wz=W3∧Hid (idxL label (lsP x.p) 0=idxL label ((lsP x.p).drop m) m)) (fun y _=>ln-(intOf y).toNat)
   case atStart=>exact⟨0,Nat.zero_le _,rfl,rfl,Lib.hid (by simp)⟩
   case round=>
    obtain⟨m,hm,rfl,rfl,hI2⟩:=hrel;by_cases hlt:m<ln
    ·obtain⟨z,hz⟩: ∃z,(lsP x.p)[m]? =some z:=⟨(lsP x.p)[m]'(by rw[←HLN.out];exact hlt),by simp⟩;obtain⟨v,hv2⟩: ∃v,(psP x.p)[m]? =some v:=⟨(psP x.p)[m]'(by rw[←HLE.out,←HLN.out];exact hlt),by simp⟩;obtain⟨gl,ol,hla,hll,dl⟩:=RL.out _ F3.out m z hz;obtain⟨gp,op,hpa,hpl,dpp⟩:=RP.out _ F3.out m v hv2;have HZ:=Lib.hid hz;have HV:=Lib.hid hv2;have HLA:=Lib.hid hla;have HPA:=Lib.hid hpa;rw[hla]at h2⊢;rw[hpa]at h3⊢;clear hz hv2 hla hpa;by_cases hzl:z=label
     ·have FIN:Hid (findW label fs=.tuple #[.int .i64 ((kn:Int)-1-(q:Int)),.int .u64 v,.bool true]):=Lib.hid (by
       have h1:=hI.out;have hxp:=HXP.out;have hlf:kn-(q+1)<fs.length:=by rw[HFN.out];omega
       rw[List.drop_eq_getElem_cons hlf,fndP_cons]at h1
       have e1:fs[kn-(q+1)]=x.p:=by
        rw[List.getElem?_eq_getElem hlf]at hxp;injection hxp
       rw[e1,hI2.out,idxL_hit label _ m (by rw[HZ.out,hzl])]at h1;rw[findW_some label fs _ _ x.p h1 hxp v HV.out]
       congr 4
       omega)
      have b0:(z==label)=true:=by simpa using hzl
      subst hzl;clear hI hI2 HV HZ HXP;go_upto_region 9 with fail
      go_region
      all_goals
       go_wp2;go_ret3;rw[FIN.out];exact⟨rfl,(hF.out.trans F3.out (by simp)).drew⟩
     ·have b0:(z==label)=false:=by simpa using hzl
      have NXT:Hid (idxL label (lsP x.p) 0=idxL label ((lsP x.p).drop (m+1)) (m+1)):=Lib.hid (by rw[hI2.out];exact idxL_miss label _ m z HZ.out hzl);clear hI2 HV HZ;go_wp2;go_roundw
      case rel=>exact⟨m+1,by omega,by rw[Int.natCast_add];rfl,trivial,NXT⟩
      case measure=>show ln-((m:Int)+1).toNat<ln-(m:Int).toNat;omega
    ·obtain rfl:m=ln:=by omega
     have NXT:Hid (fndP label fs 0=fndP label (fs.drop (kn-q)) (kn-q)):=Lib.hid (by
      have h1:=hI.out;have hxp:=HXP.out;have hlf:kn-(q+1)<fs.length:=by rw[HFN.out];omega
      rw[List.drop_eq_getElem_cons hlf,fndP_cons]at h1
      have e1:fs[kn-(q+1)]=x.p:=by
       rw[List.getElem?_eq_getElem hlf]at hxp;injection hxp
      rw[e1,hI2.out,List.drop_eq_nil_of_le (by rw[HLN.out];exact Nat.le_refl _)]at h1;rw[h1];show fndP label _ (kn-(q+1)+1)=_;rw[show kn-(q+1)+1=kn-q by omega])
     have F4:=Lib.hid (hF.out.trans F3.out (by simp));clear hI hI2 HXP hF F3;go_wp2;go_roundw
     case rel=>exact⟨q,by omega,rfl,NXT,F4,PK3⟩
     case measure=>simp[intOf]
def HsOk(fs:List PF):Prop:= ∀p,p∈fs→(lsP p).length=(psP p).length∧(lsP p).length≤20
theorem doc_find(w:World)(label:Int)(h:MdR X w s t k)(hf:Fit k)(hh:HsOk k.fs):
 Calls Tryz.prog 36 #[.agg #[.slice s.a s.n s.cap,.slice t.a t.n t.cap],.int .u64 label] w fun e w'=>e=.returned (findW label k.fs)∧MdR X w' s t k∧Fr [] w w':=by
 obtain⟨L,h1,h2⟩:=h.f;have hn:=md_fs h;refine(mfind w label s.a s.n s.cap t.a t.n t.cap L h2 k.fs h1 (fun p hp=>(hh p hp).1) (by have:=hf.1;omega) (fun p hp=>by have:=(hh p hp).2;omega)).mono ?_;rintro e w' ⟨rfl,hF⟩;exact⟨rfl,h.keep hF,hF⟩
end
section
open Go.ChangeShapes Go.WideShapes Go.RowKit
variable{w0 w w1 w':World}{c:Sk}{X:List Nat}{k k':PK}{rs:List Int}{A:Ar}{m:Nat}{M:Mem}{x y s b:Int}{fs:List Frm}{fp:List Int}{p:PF}
theorem fits_sz{cap:Nat}: ∀{fs:List Frm},fits cap fs→∀f,f∈fs→f.slots.length+f.room≤cap∧f.words.length≤f.room:=by
 intro fs
 induction fs with
 |nil=>intro _ f hf;cases hf
 |cons f r ih=>
  intro h g hg;obtain⟨h1,h2,_,_,h3⟩:=h;rcases List.mem_cons.1 hg with rfl|hg
  ·exact⟨by omega,h2⟩
  ·exact ih h3 g hg
theorem Low.sz(h:Low M s b fs fp)(hp:Hq A m M): ∀f,f∈fs→f.slots.length≤240∧f.words.length≤240:=by
 induction h with
 |nil=>intro f hf;cases hf
 |cons seg ok low out ih=>
  intro f hf;have hc:=seg.cp hp;rcases List.mem_append.1 hf with hf|hf
  ·have:=fits_sz ok f hf;omega
  ·exact ih f hf
theorem RF.sz(h:RF M x y p fp)(hp:Hq A m M)(hm:m≤600):FitP p:=by
 have h1:=(h.frv hp).2;have hmm:m*256≤600*256:=Nat.mul_le_mul_right _ hm;refine⟨by omega, ?_⟩;obtain⟨⟨s,b,hd,fq,h1,h2,_⟩,_⟩:=h;obtain⟨fr,h0⟩:=p;simp only at h2⊢;cases h2 with
 |bare=>intro f hf;cases hf
 |empty=>intro f hf;cases hf
 |full low=>exact low.sz hp
theorem RC.all{e:Int}: ∀{l:List PF} {x:Int} {fp:List Int},RC M e l x fp→∀p,p∈l→∃x y f,RF M x y p f:=by
 intro l
 induction l with
 |nil=>intro x fp _ p hp;cases hp
 |cons q l ih=>
  rintro x fp ⟨y,f1,f2,h1,h2,rfl,h4⟩ p hp;rcases List.mem_cons.1 hp with rfl|hp
  ·exact⟨_,_,_,h1⟩
  ·exact ih h2 p hp
theorem RT.sz{l:List PF}{r:Int}(h:RT M (some l) r fp)(hp:Hq A m M)(hm:m≤600):l.length≤1000000∧∀p,p∈l→FitP p:=by
 obtain⟨hi,lo,a,q,f1,f2,rfl,h2,h3,h4,_⟩:=h;have:=RC.many hp h3;have hmm:m*256≤600*256:=Nat.mul_le_mul_right _ hm;refine⟨by rw[List.length_append,List.length_singleton];omega,fun p hpm=> ?_⟩;rcases List.mem_append.1 hpm with hpm|hpm
 ·obtain⟨_,_,_,h⟩:=RC.all h3 p hpm;exact h.sz hp hm
 ·simp at hpm;subst hpm;exact h4.sz hp hm
theorem RTs.all: ∀{ts:List (Option (List PF))} {rs fp:List Int},RTs M ts rs fp→(∀t,t∈ts→∃r f,RT M t r f)∧fp.Nodup∧ts.length≤fp.length:=by
 intro ts
 induction ts with
 |nil=>
  rintro rs fp ⟨rfl,rfl⟩;exact⟨fun t ht=>(nomatch ht),by simp,by simp⟩
 |cons t ts ih=>
  rintro rs fp ⟨r,rs',f1,f2,rfl,h1,h2,rfl,h4⟩;obtain⟨i1,i2,i3⟩:=ih h2;refine⟨fun t' ht=> ?_,List.nodup_append.2 ⟨h1.nd,i2,fun a ha b hb hab=>h4 a ha (hab▸hb)⟩, ?_⟩
  ·rcases List.mem_cons.1 ht with rfl|ht
   ·exact⟨_,_,h1⟩
   ·exact i1 t' ht
  ·have:1≤f1.length:=by
    cases t with
    |none=>obtain⟨_,rfl⟩:=h1;simp
    |some l=>obtain⟨_,_,_,_,_,_,_,_,_,_,rfl,_⟩:=h1;simp
   simp only[List.length_cons,List.length_append];omega
structure Szs(k:PK):Prop where
 fit:Fit k
 tak:FitT k
 hs:HsOk k.fs
 ne:k.fs≠[]
theorem Ks.szs(h:Ks w0 w c X k rs)(hm:c.m≤600):Szs k:=by
 obtain⟨A,M,top,last,_,hp,h,_⟩:=h;obtain⟨⟨f1,f2,hc,ht,_⟩,hne⟩:=h;have h1:=RC.many hp hc;have hmm:c.m*256≤600*256:=Nat.mul_le_mul_right _ hm;obtain⟨t1,t2,t3⟩:=RTs.all ht;have h2:=hp.many f2 t2 (fun z hz=>by obtain⟨o,ho,_⟩:=RTs.dom ht z hz;exact⟨o,ho⟩);refine⟨⟨by omega,fun p hpm=> ?_⟩,⟨by omega,fun l hl=> ?_⟩,fun p hpm=> ?_,hne⟩
 ·obtain⟨_,_,_,h⟩:=RC.all hc p hpm;exact h.sz hp hm
 ·obtain⟨r,f,h⟩:=t1 _ hl;exact h.sz hp hm
 ·obtain⟨_,_,_,h⟩:=RC.all hc p hpm;have hok:=h.ok.2;unfold lsP psP;cases hh:p.h with
  |none=>simp
  |some H=>
   obtain⟨_,_,_,q1,q2⟩:=hok H hh;exact⟨q1,q2⟩
end
section
open Go.ChangeShapes Go.WideShapes Go.RowKit
variable{w w':World}{Y Y':List Nat}{xb:Nat}{c:Sk}{k k':PK}{rs rs':List Int}{tv tv':Value}{s t s' t':SV}{full full':Bool}
def runCells(c:Sk)(tv:Value)(s t:SV)(full:Bool):Array Value:= #[.pointer (some ⟨c.sb,0,none⟩),.pointer (some ⟨c.kb,0,none⟩),tv,.slice s.a s.n s.cap,.slice t.a t.n t.cap,.bool full]
structure RunAt(Y:List Nat)(w:World)(xb:Nat)(c:Sk)(k:PK)(rs:List Int)(tv:Value)(s t:SV)(full:Bool):Prop where
 hx:blk w xb=some (.cells (runCells c tv s t full) 42 (0,0))
 hk:Ks w w c Y k rs
 hm:MdR Y w s t k
 tk:TkAt w 0 tv rs
 cm:c.m≤600
 xc:xb∉c.all
 tc: ∀g,tv.ownBlock=some g→g∉c.all∧g≠xb
 sub: ∀y,y∈c.all→y∈Y
 sx:xb∈Y
 st: ∀g,tv.ownBlock=some g→g∈Y
 lt: ∀y,y∈Y→y<w.heap.size
def runOwn(c:Sk)(xb:Nat)(tv:Value):List Nat:=c.own++xb::tv.ownBlock.toList
theorem RunAt.keep(h:RunAt Y w xb c k rs tv s t full)(hF:Fr [] w w'):RunAt Y w' xb c k rs tv s t full:=
 ⟨hF.at h.hx (by simp),(h.hk.keep hF).base,h.hm.keep hF,h.tk.fr hF (by simp),h.cm,h.xc,h.tc,h.sub,h.sx,h.st,fun y hy=>Nat.lt_of_lt_of_le (h.lt y hy) hF.size⟩
structure AV where
 kind:Int
 n:Int
 m:Int
 word:Int
 deep:Bool
 ls:List Int
 ps:List Int
 sl:SV
 sq:SV
 p0:Int
 p1:Int
def AV.cells(a:AV):Array Value:= #[.int .i64 a.kind,.int .i64 a.n,.int .i64 a.m,.int .u64 a.word,.bool a.deep,.slice a.sl.a a.sl.n a.sl.cap,.slice a.sq.a a.sq.n a.sq.cap,.int .i64 a.p0,.int .i64 a.p1]
structure AV.Ok(Y:List Nat)(w:World)(a:AV):Prop where
 l:WsR Y w a.sl a.ls
 q:WsR Y w a.sq a.ps
 wd:Plain a.word
 pl: ∀x,x∈a.ls→Plain x
 pq: ∀x,x∈a.ps→Plain x
 ll:a.ls.length≤30
 lq:a.ps.length≤30
 ik:I64 a.kind
 i_n:I64 a.n
 im:I64 a.m
def stepK(a:AV)(k:PK):PK:=
 if a.kind=0 then(topM (pushP a.word a.n a.m) k).getD k
 else if a.kind=1 then(topM popP k).getD k
 else if a.kind=2 then(topM (setpcP (a.n.tmod 100000)) k).getD k
 else if a.kind=3 then(topM (zp a.n a.word) k).getD k
 else if a.kind=4 then(topM (putP a.word) k).getD k
 else if a.kind=5 then(topM takeP k).getD k
 else if a.kind=6 then(enterM ⟨a.deep,a.word,a.ls,a.ps⟩ k).getD k
 else if a.kind=7 then(leaveM k).getD k
 else if a.kind=9 then(capM a.n k).getD k
 else if a.kind=10 then(resM a.n k).1
 else if a.kind=11 then(clnM a.n k).1.getD k
 else k
def StepR(Y:List Nat)(w:World)(xb:Nat)(c:Sk)(k:PK)(a:AV)(tv:Value)(full:Bool)(e:Ending)(w':World):Prop:=
 e=.returned (.bool true)∧∃Y' k' rs' tv' s' t' full',RunAt Y' w' xb c k' rs' tv' s' t' full'∧(∀y,y∈Y→y∈Y')∧(∀y,y∈Y'→y∈Y∨w.heap.size≤y)∧(∀g,tv'.ownBlock=some g→tv.ownBlock=some g∨w.heap.size≤g)∧Fr (runOwn c xb tv) w w'∧(full=true→full'=true)∧(full'=false→k'=stepK a k)
set_option maxRecDepth 100000 in
theorem end_c(w:World)(xb:Nat)(v0 v1 tv:Value)(fa ta na ma:Option Addr)(fn fc tn tc nn nc mn mc:Nat)(full ok want mk:Bool)(hb:Hid (blk w xb=some (.cells #[v0,v1,tv,.slice fa fn fc,.slice ta tn tc,.bool full] 42 (0,0))))(h:(ok=true∧want=true)∨(ok=false∧want=false)∨(ok=false∧want=true∧mk=true)):
 Calls Tryz.prog 22 #[.pointer (some ⟨xb,0,none⟩),.bool ok,.bool want,.agg #[.slice na nn nc,.slice ma mn mc],.bool mk] w fun e w'=>e=.returned (.bool true)∧blk w' xb=some (.cells #[v0,v1,tv,if ok=true then .slice na nn nc else .slice fa fn fc,if ok=true then .slice ma mn mc else .slice ta tn tc,.bool (if ok=false∧want=true then true else full)] 42 (0,0))∧Fr [xb] w w':=by
 obtain⟨W3,hW3⟩: ∃W,W=w.alloc (.cells #[.slice na nn nc,.slice ma mn mc] 40):=⟨_,rfl⟩;obtain⟨pb,hpb⟩: ∃pb,pb=w.heap.size:=⟨_,rfl⟩;have FW3:Hid (Fr [] w W3):=Lib.hid (by rw[hW3];exact(Fr.refl _ _).alloc _);have PM:Hid (blk W3 pb=some (.cells #[.slice na nn nc,.slice ma mn mc] 40 (0,0))):=Lib.hid (by rw[hW3,hpb,zB,if_pos rfl]);have PX:=Lib.hid (FW3.out.at hb.out (by simp));have hne:xb≠pb:=by rw[hpb];exact Nat.ne_of_lt (zF hb.out)
 go_enter Tryz.func22,Tryz.ntmps22;go_upto_region 1 with fail
 rw[←hW3]
 try rw[←hpb]
 clear hW3 hpb hb;have p0:=zA PM.out (i:=0) rfl;have p1:=zA PM.out (i:=1) rfl;have x3:=zA PX.out (i:=3) rfl;have x4:=zA PX.out (i:=4) rfl;have x5:=zA PX.out (i:=5) rfl;have f3:=zE PX.out (i:=3);have f4:=zE PX.out (i:=4);have f5:=zE PX.out (i:=5);rcases h with⟨rfl,rfl⟩|⟨rfl,rfl⟩|⟨rfl,rfl,rfl⟩
 ·go_wp2;go_ret;refine⟨rfl,by rw[zD,if_pos rfl,zD,if_pos rfl,PX.out];rfl, ?_⟩;exact((FW3.out.mono (by simp)).setCell (.inl (by simp)) _).setCell (.inl (by simp)) _
 ·go_wp2;go_ret;exact⟨rfl,PX.out,FW3.out.mono (by simp)⟩
 ·go_wp2;go_ret;refine⟨rfl,by rw[zD,if_pos rfl,PX.out];rfl, ?_⟩;exact((FW3.out.mono (by simp)).setCell (.inl (by simp)) _)
end
end Go.Proofs.YtghkahcogphomaaGreat
