/- Fibers: a part of the walk. No condition. -/
import Derived.Test.YtghkahcogphomaaGreatQk23
set_option linter.all false
namespace Go.Proofs.YtghkahcogphomaaGreat
section
variable{A A':Ar}{m:Nat}{M M' M'':Mem}{x y s prev below hand hd l0 b top:Int}{cap:Nat}{f f':Frm}{fs r0 r:List Frm}{fp fp' fq:List Int}{p q:PF}{h0:Option PH}{l a rest l':List PF}{k:PK}{rs:List Int}{ts:List (Option (List PF))}
def ontoP:List PF→List PF
 |p::q::l=>if p.h=none∧p.fr=[]then q::l else p::q::l
 |l=>l
theorem Rep.used(h:Rep M top k rs)(hp:Hq A m M){i:Nat}(hi:k.tk[i]? =some none): ∃r,rs[i]? =some r∧W64 r∧freshF A m r=201:=by
 obtain⟨⟨f1,f2,h1,h2,h3⟩,_⟩:=h;obtain⟨r,g1,e1,e2,_⟩:=RTs.at h2 hi;exact⟨r,e1,e2.1.ww hp,e2.1.gone hp⟩
theorem fresh_8:freshF A m 8=202:=by
 have:hAt A m 8=none:=by unfold hAt;rw[if_neg];omega
 unfold freshF kdF;rw[this];rfl
theorem Rep.resume(h:Rep M top k rs)(hp:Hq A m M){i:Nat}(hi:k.tk[i]? =some (some l')):
 ∃r,rs[i]? =some r∧W64 r∧freshF A m r=0∧∃M',Hq (resF A m top r) m M'∧Rep M' (gtF A m r 1) ⟨l'++ontoP k.fs,k.tk.set i none⟩ rs:=by
 obtain⟨⟨f1,f2,h1,h2,h3⟩,hne⟩:=h;obtain⟨r,g1,e1,⟨hi',lo,a,q,u1,u2,rfl,R1,c1,q1,rfl,nr,d1⟩,e3,e4⟩:=RTs.at h2 hi;obtain⟨fs,ts⟩:=k;simp only at h1 h2 hne hi e4⊢;refine⟨r,e1,R1.ww hp,R1.fresh hp, ?_⟩;have hg:=R1.g hp (by omega)
 obtain⟨on,f1',hon,ho1,ho2,how⟩: ∃on f1',ontoF A m top=on∧RC M 45 (ontoP fs) on f1'∧(∀z,z∈f1'→z∈f1)∧W64 on:=by
  cases fs with
  |nil=>exact absurd rfl hne
  |cons p l=>
   obtain⟨y,v1,v2,h5,h6,rfl,h8⟩:=h1;have hh:=(h5.has hp).1;have hem:=(h5.empty hp).2;have hlo:=h5.low hp;have hb:=h5.blw hp;unfold ontoF;rw[hh,hem,hlo,hb];cases l with
   |nil=>
    have:y=45:=h6.1;subst this;rw[if_neg (by simp)];exact⟨top,v1++v2,rfl,⟨45,v1,v2,h5,h6,rfl,h8⟩,fun z hz=>hz,h5.w hp⟩
   |cons q l=>
    rcases RC.head h6 hp with⟨h,_⟩|⟨_,hw,hy⟩
    ·cases h
    ·simp only[ontoP];by_cases hc:p.h=none∧p.fr=[]
     ·rw[if_pos ⟨by rw[hc.1];rfl,by rw[hc.2];rfl,by simp[hy]⟩,if_pos hc];exact⟨y,v2,rfl,h6,fun z hz=>by simp[hz],hw⟩
     ·rw[if_neg (by
       rintro⟨c1,c2,_⟩;exact hc ⟨by simpa using c1,by simpa using c2⟩),if_neg hc]
      exact⟨top,v1++v2,rfl,⟨y,v1,v2,h5,h6,rfl,h8⟩,fun z hz=>hz,h5.w hp⟩
 unfold resF;rw[hg.2.2.1,hon,hg.2.1];have hqm:=q1.mem;have n12: ∀z,z∈f1→z∉r::(u1++u2):=fun z hz hc=>h3 z hz (e3 z hc)
 obtain⟨M2,p2,q2,O2,K2⟩:=q1.setbelow hp on how;have hrl:r≠lo:=by rintro rfl;exact nr (by simp[hqm])
 have R2:=R1.off O2 (by simpa using hrl);obtain⟨o,ho,hon',hok⟩:=R2.obj;have p3:=p2.st ho (i:=0) (v:=smW 1) (by omega) (by omega) (zH 1);have R3:=R2.st' 1;obtain⟨o3,ho3,hn3,_⟩:=R3.obj;have p4:=p3.st ho3 (i:=1) (v:=45) (by omega) (by omega) zG;have R4:=R3.top' 45;obtain⟨o4,ho4,hn4,_⟩:=R4.obj;have p5:=p4.st ho4 (i:=2) (v:=45) (by omega) (by omega) zG;have R5:=R4.low' 45;have K3:=R2.k8 0 (smW 1);have K4:=R3.k8 1 45;have K5:=R4.k8 2 45;have Or:Off [r] M2 (((M2.put r 0 (smW 1)).put r 1 45).put r 2 45):=((Off.put _ _ _ _).trans (Off.put _ _ _ _)).trans (Off.put _ _ _ _);have Kr:=(K3.trans K4).trans K5
 have O:Off [lo,r] M (((M2.put r 0 (smW 1)).put r 1 45).put r 2 45):=fun v o hv ho=>by
  simp only[List.mem_cons,List.not_mem_nil,or_false,not_or]at hv;exact Or v o (by simp[hv.2]) (O2 v o (by simp[hv.1]) ho)
 have K:=K2.trans Kr
 have hin: ∀z,z∈[lo,r]→z∈r::(u1++u2):=by
  intro z hz;simp only[List.mem_cons,List.not_mem_nil,or_false]at hz;rcases hz with rfl|rfl<;>simp[hqm]
 refine⟨_,p5, ?_⟩;have q5:=q2.off Or Kr (by intro v hv hm;simp at hm;subst hm;exact nr (by simp[hv]))
 have c5:=RC.off O K c1 (by
  intro v hv hm;simp only[List.mem_cons,List.not_mem_nil,or_false]at hm;rcases hm with rfl|rfl
  ·exact d1 v hv hqm
  ·exact nr (by simp[hv]))
 have on5:=RC.off O K ho1 (fun v hv hm=>n12 v (ho2 v hv) (hin v hm));obtain⟨fp',t1,t2⟩:=e4 _ none [r] [lo,r] ⟨R5,rfl⟩ O K (fun z hz _=>hin z hz) (fun z hz _=>by simp at hz;subst hz;simp);refine⟨⟨(u1++u2)++f1',fp', ?_,t1, ?_⟩,by simp⟩
 ·rw[List.append_assoc,List.append_assoc];refine RC.app.2 ⟨lo,u1,u2++f1',c5,⟨on,u2,f1',q5,on5,rfl,fun z hz hc=>n12 z (ho2 z hc) (by simp[hz])⟩,rfl, ?_⟩;intro z hz hc;rcases List.mem_append.1 hc with hc|hc
  ·exact d1 z hz hc
  ·exact n12 z (ho2 z hc) (by simp[hz])
 ·intro z hz hc;rcases(t2 z).1 hc with hc|⟨hc,hn⟩
  ·simp at hc;subst hc;rcases List.mem_append.1 hz with hz|hz
   ·exact nr hz
   ·exact n12 z (ho2 z hz) (by simp)
  ·rcases List.mem_append.1 hz with hz|hz
   ·exact hn (List.mem_cons_of_mem _ hz)
   ·exact h3 z (ho2 z hz) hc
theorem segsF_ok{n:Nat}(hs:s%8=1):ZB A m (n+1) s=segOn (ZB A m n (gtF A m s 0)) m s:=by
 conv=>lhs;unfold ZB
 rw[if_pos hs]
theorem Low.segs(hp:Hq A m M)(h:Low M s b fs fp):
 SgOk A m fp.length s∧(∀y,(ZB A m fp.length s).2=some y→W64 y)∧
 (((ZB A m fp.length s).2=none∧Hq (ZB A m fp.length s).1 m M)∨
   ∃to M' fq,(ZB A m fp.length s).2=some to∧Hq (ZB A m fp.length s).1 m M'∧Off [] M M'∧Low M' to b fs fq∧∀z,z∈fq→M z=none):=by
 induction h with
 |nil=>
  refine⟨show(45:Int)%8≠1 by decide, ?_,.inr ⟨45,M,[],rfl,hp,Off.refl _ _,.nil,by simp⟩⟩;intro y hy;have:(45:Int)=y:=by simpa[ZB]using hy
  subst this;exact zG
 |cons seg ok low out ih=>
  rename_i s prev l0 cap f fs rest fp
  have ht:=seg.tag hp;have h0:=seg.g0 hp;obtain⟨i1,i2,i3⟩:=ih;simp only[List.length_cons];rw[segsF_ok ht,h0];have hu:=seg.used hp;have hcp:=seg.cp hp;have hle:=seg.le;unfold SgOk;rw[h0];unfold segOn;rcases i3 with⟨e1,e2⟩|⟨to,M1,fq,e1,e2,O1,L1,N1⟩
  ·rw[e1];have s1:=seg.off (Off.refl [] M) (by simp);refine⟨.inr ⟨i1, ?_, ?_, ?_,fun x hx=>by cases hx⟩,fun y hy=>(by cases hy),.inl ⟨rfl,e2⟩⟩
   ·rw[seg.used e2];omega
   ·rw[seg.used e2];omega
   ·rw[seg.rm e2];omega
  ·rw[e1];have s1:=seg.off O1 (by simp);have hw:=i2 to e1;simp only;rcases e2.copy s1 hw with⟨c1,c2⟩|⟨to2,c1,c2,c3,M2,p2,O2,S2⟩
   ·refine⟨.inr ⟨i1, ?_, ?_, ?_,fun x hx=>(by injection hx with hx;subst hx;exact hw)⟩,fun y hy=>(by rw[c1]at hy;cases hy),.inl ⟨c1,c2.back O1⟩⟩
    ·rw[s1.used e2];omega
    ·rw[s1.used e2];omega
    ·rw[s1.rm e2];omega
   ·refine⟨.inr ⟨i1, ?_, ?_, ?_,fun x hx=>(by injection hx with hx;subst hx;exact hw)⟩,fun y hy=>(by rw[c1]at hy;injection hy with hy;subst hy;exact c3),.inr ⟨to2,M2,to2::fq,c1,p2,O1.trans O2, ?_, ?_⟩⟩
    ·rw[s1.used e2];omega
    ·rw[s1.used e2];omega
    ·rw[s1.rm e2];omega
    ·refine .cons S2 (fits_mono (by omega) ok) (L1.off O2 (by simp)) ?_;intro hm;obtain⟨o,ho,_⟩:=L1.dom _ hm;rw[c2]at ho;cases ho
    ·intro z hz;rcases List.mem_cons.1 hz with rfl|hz
     ·cases hM:M z with
      |none=>rfl
      |some o=>rw[O1 _ _ (by simp) hM]at c2;cases c2
     ·exact N1 z hz
theorem Sgs.segs(hp:Hq A m M)(h:Sgs M s b fs fp):
 SgOk A m fp.length s∧(∀y,(ZB A m fp.length s).2=some y→W64 y)∧
 (((ZB A m fp.length s).2=none∧Hq (ZB A m fp.length s).1 m M)∨
   ∃to M' fq,(ZB A m fp.length s).2=some to∧Hq (ZB A m fp.length s).1 m M'∧Off [] M M'∧Sgs M' to b fs fq∧∀z,z∈fq→M z=none):=by
 cases h with
 |bare=>
  refine⟨show(45:Int)%8≠1 by decide, ?_,.inr ⟨45,M,[],rfl,hp,Off.refl _ _,.bare,by simp⟩⟩;intro y hy;have:(45:Int)=y:=by simpa[ZB]using hy
  subst this;exact zG
 |empty seg pos=>
  rename_i cap
  have ht:=seg.tag hp;have h0:=seg.g0 hp;have hu:=seg.used hp;have hcp:=seg.cp hp
  have e0:ZB A m [s].length s=segStep A m s 45:=by
   simp only[List.length_singleton];rw[segsF_ok ht,h0];rfl
  rw[e0]
  have hok:SgOk A m [s].length s:=by
   unfold SgOk;simp only[List.length_singleton];right;rw[h0];refine⟨show(45:Int)%8≠1 by decide, ?_, ?_, ?_, ?_⟩
   ·show 0≤nmF A m s 1;rw[hu];omega
   ·show nmF A m s 1≤1000;rw[hu];simp
   ·show rmF A m s≤1000;rw[seg.rm hp];omega
   ·intro y hy;have:(45:Int)=y:=by simpa[ZB]using hy
    subst this;exact zG
  refine⟨hok, ?_⟩;rcases hp.copy seg zG with⟨c1,c2⟩|⟨to2,c1,c2,c3,M2,p2,O2,S2⟩
  ·exact⟨fun y hy=>(by rw[c1]at hy;cases hy),.inl ⟨c1,c2⟩⟩
  ·exact⟨fun y hy=>(by rw[c1]at hy;injection hy with hy;subst hy;exact c3),.inr ⟨to2,M2,[to2],c1,p2,O2,.empty S2 (by omega),fun z hz=>(by simp at hz;subst hz;exact c2)⟩⟩
 |full low=>
  obtain⟨h1,h2,h3⟩:=Low.segs hp low;refine⟨h1,h2, ?_⟩;rcases h3 with h3|⟨to,M',fq,e1,e2,e3,e4,e5⟩
  ·exact .inl h3
  ·exact .inr ⟨to,M',fq,e1,e2,e3,.full e4,e5⟩
theorem RF.again(h:RF M x y p fp)(hp:Hq A m M): ∃n,SgOk A m n (gtF A m x 1)∧(∀y,(ZB A m n (gtF A m x 1)).2=some y→W64 y)∧
 (((againF A m n x).2=none∧Hq (againF A m n x).1 m M)∨∃g M' fq,(againF A m n x).2=some g∧W64 g∧Hq (againF A m n x).1 m M'∧Off [] M M'∧RF M' g 45 p fq∧∀z,z∈fq→M z=none):=by
 obtain⟨⟨s,b,hd,fs,h1,h2,h3,rfl,h5⟩,h6⟩:=h;obtain⟨k1,k2,k3⟩:=h2.segs hp;have g1:=(h1.g hp).2.1;refine⟨fs.length,by rw[g1];exact k1,by rw[g1];exact k2, ?_⟩;unfold againF;rw[g1];rcases k3 with⟨e1,e2⟩|⟨to,M1,fq,e1,e2,O1,L1,N1⟩
 ·rw[e1];exact .inl ⟨rfl,e2⟩
 ·rw[e1];simp only;have F1:=h1.off O1 (by simp);have hF:=F1.g e2;rw[hF.2.2.1,hF.2.2.2];have hhw:W64 hd:=by rw[←hF.2.2.2];exact gtF_w e2.wdA _ _ _
  rcases e2.obj 7 [45,to,smW b,hd] (by
   intro z hz;simp at hz;rcases hz with rfl|rfl|rfl|rfl
   ·exact zG
   ·exact k2 _ e1
   ·exact zH _
   ·exact hhw)with⟨c1,c2⟩|⟨g,c1,c2,c3,c4,_,M2,p2,O2,gg,c5,c6⟩
  ·exact .inl ⟨c1,c2.back O1⟩
  ·refine .inr ⟨g,M2,g::fq,c1,c4,p2,O1.trans O2,⟨⟨to,b,hd,fq,⟨gg,c5,c6 0 (by simp),c6 1 (by simp),c6 2 (by simp),c6 3 (by simp)⟩,L1.off O2 (by simp),(h3.k8 O1.k80).k8 O2.k80,rfl, ?_⟩,h6⟩, ?_⟩
   ·intro hm;obtain⟨o,ho,_⟩:=L1.dom _ hm;rw[c2]at ho;cases ho
   ·intro z hz;rcases List.mem_cons.1 hz with rfl|hz
    ·cases hM:M z with
     |none=>rfl
     |some o=>rw[O1 _ _ (by simp) hM]at c2;cases c2
    ·exact N1 z hz
end
section
variable{A A':Ar}{m:Nat}{M M' M'':Mem}{x x' y s prev below hand hd l0 b top e e':Int}{cap:Nat}{f f':Frm}{fs r0 r:List Frm}{fp fp' fq:List Int}{p q:PF}{h0:Option PH}{l a rest l':List PF}{k:PK}{rs:List Int}{ts:List (Option (List PF))}
def cntM(o:MObj):Nat:=(countF o.kind o.n (o.f 1)).toNat
def Good(P:Int→Prop)(o:MObj):Prop:= ∀i:Nat,i<cntM o→o.f i%8≠1∨P (o.f i)
def Goods(M:Mem)(P:Int→Prop)(fp:List Int):Prop:= ∀z,z∈fp→∃o,M z=some o∧Good P o
variable{P:Int→Prop}
theorem smW_tag(n:Int):smW n%8≠1:=by unfold smW mkW;omega
theorem Goods.app(h:Goods M P fp)(h2:Goods M P fq):Goods M P (fp++fq):=fun z hz=>by
 rcases List.mem_append.1 hz with hz|hz
 ·exact h z hz
 ·exact h2 z hz
theorem Fib.good(h:Fib M x below s b hd)(h1:below%8≠1∨P below)(h2:s%8≠1∨P s)(h3:hd%8≠1∨P hd): ∃o,M x=some o∧Good P o:=by
 obtain⟨g,e1,e2,e3,e4,e5⟩:=h.ex;refine⟨_,e1,fun i hi=> ?_⟩;have hc:cntM ⟨7,4,g⟩=4:=by unfold cntM countF;simp only;rw[if_neg (by omega),if_pos (by omega)];rfl
 rw[hc]at hi
 match i,hi with
 |0,_=>simp only[Int.natCast_zero];rw[show g 0=below from e2];exact h1
 |1,_=>show g 1%8≠1∨P (g 1);rw[e3];exact h2
 |2,_=>show g 2%8≠1∨P (g 2);rw[e4];exact .inl (smW_tag _)
 |3,_=>show g 3%8≠1∨P (g 3);rw[e5];exact h3
theorem Seg.good{ws:List Int}(h:Seg M s prev cap ws)(hp:Hq A m M)(h1:prev%8≠1∨P prev)(h2: ∀z,z∈ws→z%8≠1): ∃o,M s=some o∧Good P o:=by
 have hcp:=h.cp hp;obtain⟨⟨g,e1,e2,e3,e4⟩,e5⟩:=h;refine⟨_,e1,fun i hi=> ?_⟩;have hv:wVal (g 1)=ws.length:=by rw[e3,smW_val (by omega) (by omega)]
 have hc:cntM ⟨15,2+cap,g⟩=2+ws.length:=by
  unfold cntM countF;simp only;rw[if_neg (by omega),if_neg (by omega),hv,if_neg (by rw[e3];unfold smW mkW;omega)];omega
 rw[hc]at hi
 match i,hi with
 |0,_=>show g 0%8≠1∨P (g 0);rw[e2];exact h1
 |1,_=>show g 1%8≠1∨P (g 1);rw[e3];exact .inl (smW_tag _)
 |i+2,hi=>
  left;have hi2:i<ws.length:=by omega
  have:=e4 i hi2;rw[show((i+2:Nat):Int)=2+i by omega];simp only;rw[this,List.getElem?_eq_getElem hi2];exact h2 _ (List.getElem_mem hi2)
theorem Res.good{n hi lo:Int}(h:Res M x n hi lo)(h1:hi%8≠1∨P hi)(h2:lo%8≠1∨P lo): ∃o,M x=some o∧Good P o:=by
 obtain⟨g,e1,e2,e3,e4⟩:=h;refine⟨_,e1,fun i hi=> ?_⟩;have hc:cntM ⟨6,3,g⟩=3:=by unfold cntM countF;simp only;rw[if_neg (by omega),if_pos (by omega)];rfl
 rw[hc]at hi
 match i,hi with
 |0,_=>show g 0%8≠1∨P (g 0);rw[e2];exact .inl (smW_tag _)
 |1,_=>show g 1%8≠1∨P (g 1);rw[e3];exact h1
 |2,_=>show g 2%8≠1∨P (g 2);rw[e4];exact h2
theorem mem_zipL{ls ps:List Int}(k:Nat)(h1:k≤ls.length)(h2:k≤ps.length): ∀z,z∈zipL ls ps k→z∈ls∨z∈ps:=by
 induction k with
 |zero=>intro z hz;cases hz
 |succ k ih=>
  intro z hz;simp only[zipL,List.mem_append,List.mem_cons,List.not_mem_nil,or_false]at hz;rcases hz with hz|rfl|rfl
  ·exact ih (by omega) (by omega) z hz
  ·left;rw[List.getElem?_eq_getElem (by omega)];exact List.getElem_mem _
  ·right;rw[List.getElem?_eq_getElem (by omega)];exact List.getElem_mem _
theorem Hdl.good{H:PH}(h:Hdl M x H)(hok:H.Ok): ∃o,M x=some o∧Good P o:=by
 obtain⟨g,e1,e2,e3,e4⟩:=h;refine⟨_,e1,fun i hi=> .inl ?_⟩;have hc:cntM ⟨8,((2+(zipL H.ls H.ps H.ls.length).length:Nat):Int),g⟩=2+(zipL H.ls H.ps H.ls.length).length:=by unfold cntM countF;simp only;rw[if_neg (by omega),if_pos (by omega)];omega
 rw[hc]at hi
 match i,hi with
 |0,_=>show g 0%8≠1;rw[e2];exact smW_tag _
 |1,_=>show g 1%8≠1;rw[e3];exact hok.1.2
 |i+2,hi=>
  have hi2:i<(zipL H.ls H.ps H.ls.length).length:=by omega
  have:=e4 i hi2;rw[show((i+2:Nat):Int)=2+i by omega];simp only;rw[this,List.getElem?_eq_getElem hi2,Option.getD_some];rcases mem_zipL _ (Nat.le_refl _) (by rw[hok.2.2.2.1];exact Nat.le_refl _) _ (List.getElem_mem hi2)with h|h
  ·exact(hok.2.1 _ h).2
  ·exact(hok.2.2.1 _ h).2
theorem Frm.enc_tag{f:Frm}(h:f.Ok)(link:Int): ∀z,z∈f.enc link→z%8≠1:=by
 intro z hz;simp only[Frm.enc,List.cons_append,List.nil_append,List.mem_cons,List.mem_append]at hz;rcases hz with rfl|rfl|rfl|rfl|rfl|hz|hz
 ·exact h.1.2
 ·exact smW_tag _
 ·exact smW_tag _
 ·exact smW_tag _
 ·exact smW_tag _
 ·exact(h.2.1 z hz).2
 ·exact(h.2.2 z hz).2
theorem enc_tag(l0:Int)(fs:List Frm)(h: ∀f,f∈fs→f.Ok): ∀z,z∈enc l0 fs→z%8≠1:=by
 induction fs with
 |nil=>intro z hz;cases hz
 |cons f r ih=>
  intro z hz;simp only[enc,List.mem_append]at hz;rcases hz with hz|hz
  ·exact ih (fun g hg=>h g (by simp[hg])) z hz
  ·exact Frm.enc_tag (h f (by simp)) _ z hz
theorem Low.good(hp:Hq A m M)(h:Low M s b fs fp)(hok: ∀f,f∈fs→f.Ok)(hP: ∀z,z∈fp→P z):Goods M P fp∧(s%8≠1∨P s):=by
 induction h with
 |nil=>exact⟨fun z hz=>(by cases hz),.inl (by decide)⟩
 |cons seg ok low out ih=>
  have:=ih (fun g hg=>hok g (by simp[hg])) (fun z hz=>hP z (by simp[hz]));refine⟨fun z hz=> ?_,.inr (hP _ (by simp))⟩;rcases List.mem_cons.1 hz with rfl|hz
  ·exact seg.good hp this.2 (enc_tag _ _ (fun g hg=>hok g (by simp only[List.cons_append,List.mem_cons,List.mem_append]at hg⊢;rcases hg with h|h<;>simp[h])))
  ·exact this.1 z hz
theorem Sgs.good(hp:Hq A m M)(h:Sgs M s b fs fp)(hok: ∀f,f∈fs→f.Ok)(hP: ∀z,z∈fp→P z):Goods M P fp∧(s%8≠1∨P s):=by
 cases h with
 |bare=>exact⟨fun z hz=>(by cases hz),.inl (by decide)⟩
 |empty seg pos=>
  refine⟨fun z hz=> ?_,.inr (hP _ (by simp))⟩;rcases List.mem_cons.1 hz with rfl|hz
  ·exact seg.good hp (.inl (by decide)) (fun z hz=>by cases hz)
  ·cases hz
 |full low=>exact Low.good hp low hok hP
theorem RF.good(h:RF M x y p fp)(hp:Hq A m M)(hP: ∀z,z∈fp→P z)(hH: ∀z H,Hdl M z H→H.Ok→P z)(hy:y%8≠1∨P y):Goods M P fp:=by
 obtain⟨⟨s,b,hd,fs,h1,h2,h3,rfl,h5⟩,h6⟩:=h;have:=h2.good hp h6.1 (fun z hz=>hP z (by simp[hz]));intro z hz;rcases List.mem_cons.1 hz with rfl|hz
 ·refine h1.good hy this.2 ?_;cases hh:p.h with
  |none=>rw[hh]at h3;rw[show hd=45 from h3];exact .inl (by decide)
  |some H=>rw[hh]at h3;exact .inr (hH _ _ h3 (h6.2 H hh))
 ·exact this.1 z hz
theorem RC.good(hp:Hq A m M)(hH: ∀z H,Hdl M z H→H.Ok→P z)(he:e%8≠1∨P e): ∀{l:List PF} {x:Int} {fp:List Int},RC M e l x fp→(∀z,z∈fp→P z)→Goods M P fp∧(x%8≠1∨P x):=by
 intro l
 induction l with
 |nil=>rintro x fp ⟨rfl,rfl⟩ _;exact⟨fun z hz=>(by cases hz),he⟩
 |cons p l ih=>
  rintro x fp ⟨y,f1,f2,h1,h2,rfl,h4⟩ hP;have:=ih h2 (fun z hz=>hP z (by simp[hz]));exact⟨(h1.good hp (fun z hz=>hP z (by simp[hz])) hH this.2).app this.1,.inr (hP x (by simp[h1.mem]))⟩
theorem RT.good{t:Option (List PF)}(hp:Hq A m M)(hH: ∀z H,Hdl M z H→H.Ok→P z)(h:RT M t x fp)(hP: ∀z,z∈fp→P z):Goods M P fp:=by
 cases t with
 |none=>
  obtain⟨h1,rfl⟩:=h;intro z hz;rcases List.mem_cons.1 hz with rfl|hz
  ·exact h1.good (.inl (by decide)) (.inl (by decide))
  ·cases hz
 |some l=>
  obtain⟨hi,lo,a,q,f1,f2,h1,h2,h3,h4,rfl,h6,h7⟩:=h;have hlo:P lo:=hP lo (by simp[h4.mem]);have c:=RC.good hp hH (.inr hlo) h3 (fun z hz=>hP z (by simp[hz]));have c2:=h4.good hp (fun z hz=>hP z (by simp[hz])) hH (.inl (by decide));intro z hz;rcases List.mem_cons.1 hz with rfl|hz
  ·exact h2.good c.2 (.inr hlo)
  ·exact(c.1.app c2) z hz
theorem RTs.good(hp:Hq A m M)(hH: ∀z H,Hdl M z H→H.Ok→P z): ∀{ts:List (Option (List PF))} {rs fp:List Int},RTs M ts rs fp→(∀z,z∈fp→P z)→Goods M P fp∧∀r,r∈rs→P r:=by
 intro ts
 induction ts with
 |nil=>rintro rs fp ⟨rfl,rfl⟩ _;exact⟨fun z hz=>(by cases hz),fun z hz=>by cases hz⟩
 |cons t ts ih=>
  rintro rs fp ⟨r,rs',f1,f2,rfl,h1,h2,rfl,h4⟩ hP;have:=ih h2 (fun z hz=>hP z (by simp[hz]));refine⟨(RT.good hp hH h1 (fun z hz=>hP z (by simp[hz]))).app this.1,fun z hz=> ?_⟩;rcases List.mem_cons.1 hz with rfl|hz
  ·exact hP _ (by simp[(h1.ww hp).2.2])
  ·exact this.2 z hz
structure Mv(M M':Mem)(T:Int→Int→Prop):Prop where
 non: ∀x y,T x y→x%8≠1→y=x
 obj: ∀x y o,T x y→M x=some o→x%8=1→∃o',M' y=some o'∧o'.kind=o.kind∧o'.n=o.n∧∀i:Nat,i<cntM o→T (o.f i) (o'.f i)
 inj: ∀x x' y,T x y→T x' y→x%8=1→x'%8=1→x=x'
variable{T:Int→Int→Prop}
theorem Fib.mv(h:Fib M x below s b hd)(hv:Mv M M' T)(hx:T x x')(ht:x%8=1): ∃below' s' hd',Fib M' x' below' s' b hd'∧T below below'∧T s s'∧T hd hd':=by
 obtain⟨g,e1,e2,e3,e4,e5⟩:=h.ex;obtain⟨⟨k',n',g'⟩,o1,o2,o3,o4⟩:=hv.obj x x' _ hx e1 ht;simp only at o2 o3 o4;subst o2 o3;have hc:cntM ⟨7,4,g⟩=4:=by unfold cntM countF;simp only;rw[if_neg (by omega),if_pos (by omega)];rfl
 rw[hc]at o4;have t0:=o4 0 (by omega);have t1:=o4 1 (by omega);have t2:=o4 2 (by omega);have t3:=o4 3 (by omega);have t2':=hv.non _ _ t2 (by show g 2%8≠1;rw[e4];exact smW_tag _);refine⟨g' 0,g' 1,g' 3,⟨g',o1,rfl,rfl, ?_,rfl⟩, ?_, ?_, ?_⟩
 ·rw[←e4];exact t2'
 ·rw[←e2];exact t0
 ·rw[←e3];exact t1
 ·rw[←e5];exact t3
theorem Seg.mv{ws:List Int}(h:Seg M s prev cap ws)(hp:Hq A m M)(hw: ∀z,z∈ws→z%8≠1)(hv:Mv M M' T)(hx:T s x'): ∃prev',Seg M' x' prev' cap ws∧T prev prev':=by
 have hcp:=h.cp hp;have ht:=h.tag hp;obtain⟨⟨g,e1,e2,e3,e4⟩,e5⟩:=h;obtain⟨⟨k',n',g'⟩,o1,o2,o3,o4⟩:=hv.obj s x' _ hx e1 ht;simp only at o2 o3 o4;subst o2 o3;have hv1:wVal (g 1)=ws.length:=by rw[e3,smW_val (by omega) (by omega)]
 have hc:cntM ⟨15,2+cap,g⟩=2+ws.length:=by
  unfold cntM countF;simp only;rw[if_neg (by omega),if_neg (by omega),hv1,if_neg (by rw[e3];unfold smW mkW;omega)];omega
 rw[hc]at o4;have t0:=o4 0 (by omega);have t1:=hv.non _ _ (o4 1 (by omega)) (by show g 1%8≠1;rw[e3];exact smW_tag _);refine⟨g' 0,⟨⟨g',o1,rfl, ?_, ?_⟩,e5⟩, ?_⟩
 ·rw[←e3];exact t1
 ·intro i hi
  have hw':g (2+(i:Int))%8≠1:=by
   rw[e4 i hi,List.getElem?_eq_getElem hi];exact hw _ (List.getElem_mem hi)
  have:=hv.non _ _ (o4 (2+i) (by omega)) (by rw[show((2+i:Nat):Int)=2+i by omega];exact hw');rw[show((2+i:Nat):Int)=2+i by omega]at this;rw[this];exact e4 i hi
 ·rw[←e2];exact t0
theorem Res.mv{n hi lo:Int}(h:Res M x n hi lo)(hv:Mv M M' T)(hx:T x x')(ht:x%8=1): ∃hi' lo',Res M' x' n hi' lo'∧T hi hi'∧T lo lo':=by
 obtain⟨g,e1,e2,e3,e4⟩:=h;obtain⟨⟨k',n',g'⟩,o1,o2,o3,o4⟩:=hv.obj x x' _ hx e1 ht;simp only at o2 o3 o4;subst o2 o3;have hc:cntM ⟨6,3,g⟩=3:=by unfold cntM countF;simp only;rw[if_neg (by omega),if_pos (by omega)];rfl
 rw[hc]at o4;have t0:=hv.non _ _ (o4 0 (by omega)) (by show g 0%8≠1;rw[e2];exact smW_tag _);have t1:=o4 1 (by omega);have t2:=o4 2 (by omega);exact⟨g' 1,g' 2,⟨g',o1,by rw[←e2];exact t0,rfl,rfl⟩,by rw[←e3];exact t1,by rw[←e4];exact t2⟩
theorem Hdl.mv{H:PH}(h:Hdl M x H)(hok:H.Ok)(hv:Mv M M' T)(hx:T x x')(ht:x%8=1):Hdl M' x' H:=by
 have hgood: ∃o,M x=some o∧Good (fun _=>False) o:=h.good hok;obtain⟨g,e1,e2,e3,e4⟩:=h;obtain⟨o,ho,hg⟩:=hgood;rw[e1]at ho;injection ho with ho
 subst ho;obtain⟨⟨k',n',g'⟩,o1,o2,o3,o4⟩:=hv.obj x x' _ hx e1 ht;simp only at o2 o3 o4;subst o2 o3;have hc:cntM ⟨8,((2+(zipL H.ls H.ps H.ls.length).length:Nat):Int),g⟩=2+(zipL H.ls H.ps H.ls.length).length:=by unfold cntM countF;simp only;rw[if_neg (by omega),if_pos (by omega)];omega
 have key: ∀i:Nat,i<2+(zipL H.ls H.ps H.ls.length).length→g' i=g i:=fun i hi=>by
  have:=hg i (by rw[hc];exact hi);exact hv.non _ _ (o4 i (by rw[hc];exact hi)) (by rcases this with h|h;exact h;exact h.elim)
 refine⟨g',o1, ?_, ?_, ?_⟩
 ·rw[←e2];exact key 0 (by omega)
 ·rw[←e3];exact key 1 (by omega)
 ·intro i hi;rw[←e4 i hi];have:=key (2+i) (by omega);rw[show((2+i:Nat):Int)=2+i by omega]at this;exact this
def Fro(T:Int→Int→Prop)(fp fp':List Int):Prop:= ∀z',z'∈fp'→∃z,z∈fp∧T z z'∧z%8=1
theorem Fro.app{fq':List Int}(h:Fro T fp fp')(h2:Fro T fq fq'):Fro T (fp++fq) (fp'++fq'):=fun z hz=>by
 rcases List.mem_append.1 hz with hz|hz
 ·obtain⟨v,a,b⟩:=h z hz;exact⟨v,by simp[a],b⟩
 ·obtain⟨v,a,b⟩:=h2 z hz;exact⟨v,by simp[a],b⟩
theorem Fro.cons(h:Fro T fp fp')(hx:T x x')(ht:x%8=1):Fro T (x::fp) (x'::fp'):=fun z hz=>by
 rcases List.mem_cons.1 hz with rfl|hz
 ·exact⟨x,by simp,hx,ht⟩
 ·obtain⟨v,a,b⟩:=h z hz;exact⟨v,by simp[a],b⟩
theorem Fro.dis{fq':List Int}(h:Fro T fp fp')(h2:Fro T fq fq')(hv:Mv M M' T)(hd: ∀z,z∈fp→z∉fq): ∀z,z∈fp'→z∉fq':=by
 intro z hz hc;obtain⟨u,u1,u2,u3⟩:=h z hz;obtain⟨v,v1,v2,v3⟩:=h2 z hc;have:=hv.inj _ _ _ u2 v2 u3 v3;subst this;exact hd u u1 v1
theorem Fro.out(h:Fro T fp fp')(hv:Mv M M' T)(hx:T x x')(ht:x%8=1)(hd:x∉fp):x'∉fp':=by
 intro hc;obtain⟨u,u1,u2,u3⟩:=h x' hc;have:=hv.inj _ _ _ hx u2 ht u3;subst this;exact hd u1
theorem Low.mv(hp:Hq A m M)(hv:Mv M M' T)(h:Low M s b fs fp)(hok: ∀f,f∈fs→f.Ok): ∀s',T s s'→∃fp',Low M' s' b fs fp'∧Fro T fp fp':=by
 induction h with
 |nil=>
  intro s' hs;have:=hv.non _ _ hs (by decide);subst this;exact⟨[],.nil,fun z hz=>by cases hz⟩
 |cons seg ok low out ih=>
  intro s' hs;have ht:=seg.tag hp;obtain⟨prev',S',tp⟩:=seg.mv hp (enc_tag _ _ (fun g hg=>hok g (by simp only[List.cons_append,List.mem_cons,List.mem_append]at hg⊢;rcases hg with h|h<;>simp[h]))) hv hs;obtain⟨fp',L',F'⟩:=ih (fun g hg=>hok g (by simp[hg])) prev' tp;exact⟨s'::fp',.cons S' ok L' (F'.out hv hs ht out),F'.cons hs ht⟩
theorem Sgs.mv(hp:Hq A m M)(hv:Mv M M' T)(h:Sgs M s b fs fp)(hok: ∀f,f∈fs→f.Ok)(s':Int)(hs:T s s'): ∃fp',Sgs M' s' b fs fp'∧Fro T fp fp':=by
 cases h with
 |bare=>
  have:=hv.non _ _ hs (by decide);subst this;exact⟨[],.bare,fun z hz=>by cases hz⟩
 |empty seg pos=>
  have ht:=seg.tag hp;obtain⟨prev',S',tp⟩:=seg.mv hp (fun z hz=>by cases hz) hv hs;have:=hv.non _ _ tp (by decide);subst this;exact⟨[s'],.empty S' pos,Fro.cons (fp:=[]) (fp':=[]) (fun z hz=>by cases hz) hs ht⟩
 |full low=>
  obtain⟨fp',L',F'⟩:=Low.mv hp hv low hok s' hs;exact⟨fp',.full L',F'⟩
theorem RF.mv(hp:Hq A m M)(hv:Mv M M' T)(h:RF M x y p fp)(hx:T x x'): ∃y' fp',T y y'∧RF M' x' y' p fp'∧Fro T fp fp':=by
 have ht:=h.tag hp;obtain⟨⟨s,b,hd,fs,h1,h2,h3,rfl,h5⟩,h6⟩:=h;obtain⟨y',s',hd',F',t1,t2,t3⟩:=h1.mv hv hx ht;obtain⟨fs',S',Fr'⟩:=h2.mv hp hv h6.1 s' t2;refine⟨y',x'::fs',t1,⟨⟨s',b,hd',fs',F',S', ?_,rfl,Fr'.out hv hx ht h5⟩,h6⟩,Fr'.cons hx ht⟩;cases hh:p.h with
 |none=>
  rw[hh]at h3;have h3:hd=45:=h3;subst h3;exact hv.non _ _ t3 (by decide)
 |some H=>
  rw[hh]at h3;have h3:Hdl M hd H:=h3;obtain⟨g,e1,_⟩:=h3;exact Hdl.mv ⟨g,e1,by assumption⟩ (h6.2 H hh) hv t3 (hp.tag e1)
theorem RC.mv(hp:Hq A m M)(hv:Mv M M' T): ∀{l:List PF} {x:Int} {fp:List Int},RC M e l x fp→∀x',T x x'→∃e' fp',T e e'∧RC M' e' l x' fp'∧Fro T fp fp':=by
 intro l
 induction l with
 |nil=>rintro x fp ⟨rfl,rfl⟩ x' hx;exact⟨x',[],hx,⟨rfl,rfl⟩,fun z hz=>by cases hz⟩
 |cons p l ih=>
  rintro x fp ⟨y,f1,f2,h1,h2,rfl,h4⟩ x' hx;obtain⟨y',f1',t1,R1,F1⟩:=h1.mv hp hv hx;obtain⟨e',f2',t2,R2,F2⟩:=ih h2 y' t1;exact⟨e',f1'++f2',t2,⟨y',f1',f2',R1,R2,rfl,F1.dis F2 hv h4⟩,F1.app F2⟩
theorem RT.mv{t:Option (List PF)}(hp:Hq A m M)(hv:Mv M M' T)(hfun: ∀x y y',T x y→T x y'→y=y')(h:RT M t x fp)(hx:T x x'): ∃fp',RT M' t x' fp'∧Fro T fp fp':=by
 have ht:=(h.ww hp).2.1;cases t with
 |none=>
  obtain⟨h1,rfl⟩:=h;obtain⟨hi',lo',R',t1,t2⟩:=h1.mv hv hx ht;have:=hv.non _ _ t1 (by decide);subst this;have:=hv.non _ _ t2 (by decide);subst this;exact⟨[x'],⟨R',rfl⟩,Fro.cons (fp:=[]) (fp':=[]) (fun z hz=>by cases hz) hx ht⟩
 |some l=>
  obtain⟨hi,lo,a,q,f1,f2,h1,h2,h3,h4,rfl,h6,h7⟩:=h;obtain⟨hi',lo',R',t1,t2⟩:=h2.mv hv hx ht;obtain⟨e',f1',t3,C',F1⟩:=RC.mv hp hv h3 hi' t1;have:=hfun _ _ _ t2 t3;subst this;obtain⟨y',f2',t4,Q',F2⟩:=h4.mv hp hv t2;have:=hv.non _ _ t4 (by decide);subst this;exact⟨x'::(f1'++f2'),⟨hi',lo',a,q,f1',f2',h1,R',C',Q',rfl,(F1.app F2).out hv hx ht h6,F1.dis F2 hv h7⟩,(F1.app F2).cons hx ht⟩
theorem RTs.mv(hp:Hq A m M)(hv:Mv M M' T)(hfun: ∀x y y',T x y→T x y'→y=y'): ∀{ts:List (Option (List PF))} {rs fp:List Int},RTs M ts rs fp→∀rs',Rel2 T rs rs'→∃fp',RTs M' ts rs' fp'∧Fro T fp fp':=by
 intro ts
 induction ts with
 |nil=>
  rintro rs fp ⟨rfl,rfl⟩ rs' hr;have:rs'=[]:=by simpa using hr.1
  subst this;exact⟨[],⟨rfl,rfl⟩,fun z hz=>by cases hz⟩
 |cons t ts ih=>
  rintro rs fp ⟨r,rt,f1,f2,rfl,h1,h2,rfl,h4⟩ rs' hr;cases rs' with
  |nil=>have:=hr.1;simp at this
  |cons r' rt'=>
   have t0:=hr.2 0 (by simp);simp only[List.getElem?_cons_zero,Option.getD_some]at t0;obtain⟨f1',R1,F1⟩:=RT.mv hp hv hfun h1 t0;obtain⟨f2',R2,F2⟩:=ih h2 rt' ⟨by simpa using hr.1,fun i hi=>by simpa using hr.2 (i+1) (by simpa using hi)⟩;exact⟨f1'++f2',⟨r',rt',f1',f2',rfl,R1,R2,rfl,F1.dis F2 hv h4⟩,F1.app F2⟩
theorem Rep.mv(h:Rep M top k rs)(hp:Hq A m M)(hv:Mv M M' T)(hfun: ∀x y y',T x y→T x y'→y=y'){top':Int}{rs':List Int}(ht:T top top')(hr:Rel2 T rs rs'):Rep M' top' k rs':=by
 obtain⟨⟨f1,f2,h1,h2,h3⟩,h4⟩:=h;obtain⟨e',f1',t1,R1,F1⟩:=RC.mv hp hv h1 top' ht;have:=hv.non _ _ t1 (by decide);subst this;obtain⟨f2',R2,F2⟩:=RTs.mv hp hv hfun h2 rs' hr;exact⟨⟨f1',f2',R1,R2,F1.dis F2 hv h3⟩,h4⟩
end
end Go.Proofs.YtghkahcogphomaaGreat
