/- Lines that stand often, each once. -/
import Derived.WalkSpells
import Derived.WalkLawsBesides
import Derived.BigQuiet
import Derived.Lib.Hide
namespace Go.Proofs.YtlakomilichhnaaGreatDoor
open Go.RowKit
section
variable {T:Prop}
theorem za (h:T:=by show ∀ (fn:Fn) (first cap:Array Value) (w:World),(Instr.makeFunc fn first cap).run Tryz.prog w=.ok (.func fn first cap) w;exact fun _ _ _ _=>rfl):T:=h
theorem zb (h:T:=by exact Tx.ent5 w (.int .i64 id) (.int .i64 ver) (.int .i64 kind) (.string lang) (.slice a fs.length c) 51):T:=h
theorem ze (h:T:=by show (A:Int)+1=((l.length - r.tail.length:Nat):Int);have:=hte.2;rw[List.length_tail]at this ⊢;omega):T:=h
theorem zg (h:T:=by show w7.ownsRow (w.heap.size+1) 29 6 v' (T++[(⟨po,pf,psa,psn,psc,pa,pb,pka,pkn,pkc⟩:Qr.QT)]).length ((T++[(⟨po,pf,psa,psn,psc,pa,pb,pka,pkn,pkc⟩:Qr.QT)]).flatMap Qr.encQ);rw[List.length_append,List.flatMap_append];exact hown7):T:=h
theorem zh (h:T:=by show Qr.HD (w.heap.size+1) w1.heap.size w7 v'.ownBlock (acc++[q]) (T++[(⟨po,pf,psa,psn,psc,pa,pb,pka,pkn,pkc⟩:Qr.QT)]);exact (HDD.out.map (fun k t hd=>(hd.later ewr).grown hg7 hnil7)).snoc ((HD1.out.later ewr).grown hg7 hnil7)):T:=h
theorem zi (h:T:=by show Below w.heap.size w W;rw[<- hW];exact Tx.newb _ _):T:=h
theorem zj (h:T:=by show Hid (W.heap[w.heap.size+1]?=some (.cells #[.int .i64 1,.string ⟨tt.toArray⟩,.bool tg] 144 (0,0)));exact Lib.hid (by rw[<- hW];have:=heap_alloc_new (w.alloc (.cells Qr.zeroP 141)) (.cells #[.int .i64 1,.string ⟨tt.toArray⟩,.bool tg] 144);rwa [World.size_alloc]at this)):T:=h
theorem zk (h:T:=by show Below w.heap.size w W;rw[<- hW];exact (Tx.newb _ _).alloc (Tx.newb w _).size _):T:=h
theorem zm (h:T:=by show Qr.PS w2.heap.size l l (w2.alloc (.cells #[.slice ta l.length tc,.int .i64 0] 129));exact ⟨List.suffix_refl _,oQ,HOK.out,⟨w,hG,oQ,hb02.alloc oQ _⟩,ta,tc,by rw[Nat.sub_self];exact heap_alloc_new _ _,hFA.below (Tx.newb w2 _),hin⟩):T:=h
theorem zn (h:T:=by show Hid (W.heap[w.heap.size]?=some (.cells Qr.zeroP 141 (0,0)));exact Lib.hid iZ):T:=h
theorem zo (h:T:=by show Hid (W.heap[w.heap.size]?=some (.cells Qr.zeroP 141 (0,0)));exact Lib.hid (by rw[<- hW];exact Tx.blk_later (heap_alloc_new w _) (Tx.newb _ _))):T:=h
theorem zq (h:T:=by show ∃ W5,W5=((((((w4.setCell ⟨w.heap.size,0,none⟩ (.int .i64 qo)).setCell ⟨w.heap.size,1,none⟩ (.int .i64 qf)).setCell ⟨w.heap.size,2,none⟩ (.slice qsa qsn qsc)).setCell ⟨w.heap.size,3,none⟩ (.int .i64 qa)).setCell ⟨w.heap.size,4,none⟩ (.int .i64 qb)).setCell ⟨w.heap.size,5,none⟩ (.slice qka qkn qkc));exact ⟨_,rfl⟩):T:=h
theorem zr (h:T:=by exact hP.below (Tx.newb w (.cells Qr.zeroQ 29))):T:=h
theorem zt (h:T:=by show Below w.heap.size w (((W6.setCell ⟨wo.heap.size,0,none⟩ (.int .i64 1)).setCell ⟨wo.heap.size,1,none⟩ (.string (s.extract k N))).setCell ⟨wo.heap.size,2,none⟩ (.bool gl));exact ((hb.trans (b6.mono hb.size)).setCell (show w.heap.size<=wo.heap.size by omega) _).setCell (show w.heap.size<=wo.heap.size by omega) _ |>.setCell (show w.heap.size<=wo.heap.size by omega) _):T:=h
theorem zu (h:T:=by show ∃ A,toks.length - r.length=A;exact ⟨_,rfl⟩):T:=h
theorem zv (h:T:=by show W.heap.size=w.heap.size+1;rw[<- hW];simp):T:=h
theorem zw (h:T:=by exact fun w h=>look0 (K:=K) (w:=w) (g:=g) (l:=l) ht hK h):T:=h
theorem zx (h:T:=by exact (hg7.block w.heap.size OF (fun e=>by have:=HOW.out _ e.symm;omega)).trans (Tx.blk_later HRB.out ewr)):T:=h
theorem zy (h:T:=by show Qr.QC (w2.heap.size+1) W5 q [.int .i64 qo,.int .i64 qf,.slice qsa qsn qsc,.int .i64 qa,.int .i64 qb,.slice qka qkn qkc];rw[hW5];exact (hq4.kp (Qr.Kp.put6 (Qr.Kp.refl _ _) oQ _ _ _ _ _ _)).mono oQ):T:=h
theorem zz (h:T:=by show Hid (W.heap[w.heap.size]?=some (.cells Qr.zeroQ 29 (0,0)));exact Lib.hid iZ):T:=h
theorem zaa (h:T:=by show Below w.heap.size w w7;exact (hb.alloc hb.size _).grown hg7 OF OK):T:=h
theorem zab (h:T:=by show W.heap[w.heap.size+1]?=some (.cells #[.int .i64 0] 44 (0,0));rw[hW];simpa using heap_alloc_new (w.alloc (.cells Qr.zeroQ 29)) (.cells #[.int .i64 0] 44)):T:=h
theorem zac (h:T:=by show W.cell? ⟨w.heap.size+2,2,none⟩=some (.slice sa 0 sc);rw[<- hW,show w.heap.size+2=((w.alloc (.cells #[.slice xa T.length xc] 24)).alloc (.cells #[.int .i64 r.id,.int .i64 r.ver,.int .i64 r.kind,.string r.lang,.slice fa r.fields.length fc] 51)).heap.size by simp];exact (Tx.blk (heap_alloc_new _ _)).1 2):T:=h
theorem zad (h:T:=by show W.cell? ⟨w.heap.size+2,3,none⟩=some (.int .i64 0);rw[<- hW,show w.heap.size+2=((w.alloc (.cells #[.slice xa T.length xc] 24)).alloc (.cells #[.int .i64 r.id,.int .i64 r.ver,.int .i64 r.kind,.string r.lang,.slice fa r.fields.length fc] 51)).heap.size by simp];exact (Tx.blk (heap_alloc_new _ _)).1 3):T:=h
theorem zae (h:T:=by show W.cell? ⟨w.heap.size+2,4,none⟩=some (.int .i64 0);rw[<- hW,show w.heap.size+2=((w.alloc (.cells #[.slice xa T.length xc] 24)).alloc (.cells #[.int .i64 r.id,.int .i64 r.ver,.int .i64 r.kind,.string r.lang,.slice fa r.fields.length fc] 51)).heap.size by simp];exact (Tx.blk (heap_alloc_new _ _)).1 4):T:=h
theorem zaf (h:T:=by show W.cell? ⟨w.heap.size+2,1,none⟩=some (.int .i64 0);rw[<- hW,show w.heap.size+2=((w.alloc (.cells #[.slice xa T.length xc] 24)).alloc (.cells #[.int .i64 r.id,.int .i64 r.ver,.int .i64 r.kind,.string r.lang,.slice fa r.fields.length fc] 51)).heap.size by simp];exact (Tx.blk (heap_alloc_new _ _)).1 1):T:=h
theorem zag (h:T:=by exact IntWalk.i64_in ((A:Int)+1) ⟨oQ,oQ⟩):T:=h
theorem zah (h:T:=by show ∃ f,fs[k]?=some f;exact ⟨_,List.getElem?_eq_getElem hlt⟩):T:=h
theorem zai (h:T:=by exact Tx.newb wr (.cells #[.int .i64 po,.int .i64 pf,.slice psa psn psc,.int .i64 pa,.int .i64 pb,.slice pka pkn pkc] 29)):T:=h
theorem zaj (h:T:=by exact (hg7.block w1.heap.size OF (fun e=>HNP.out e.symm)).trans (Tx.blk_later HPB.out ewr)):T:=h
theorem zak (h:T:=by show (((W6.setCell ⟨wo.heap.size,0,none⟩ (.int .i64 1)).setCell ⟨wo.heap.size,1,none⟩ (.string (s.extract k N))).setCell ⟨wo.heap.size,2,none⟩ (.bool gl)).ownsRow w.heap.size 144 3 u4 out.length (out.flatMap Qr.encR);exact Tx.own_set (Tx.own_set (Tx.own_set own6 HNE.out _) HNE.out _) HNE.out _):T:=h
theorem zal (h:T:=by exact Tx.ent4 w (.string f.tag) (.string f.ind) (.slice a f.subs.length c) (.int .i64 f.auth) 84):T:=h
theorem zam (h:T:=by show (⟨tt.toArray⟩:ByteArray).size<=1000000;rw[Tx.size_mk];omega):T:=h
theorem zan (h:T:=by show Hid (W.heap[w.heap.size+1]?=some (.cells #[.int .i64 2,.string ⟨tt.toArray⟩,.bool tg] 144 (0,0)));exact Lib.hid (by rw[<- hW];have:=heap_alloc_new (w.alloc (.cells Qr.zeroP 141)) (.cells #[.int .i64 2,.string ⟨tt.toArray⟩,.bool tg] 144);rwa [World.size_alloc]at this)):T:=h
theorem zao (h:T:=by show W5.heap[w2.heap.size]?=some (.cells #[.slice ta4 l.length tc4,.int .i64 (A:Int)] 129 (0,0));rw[hW5];exact Qr.far6 kg4 (show w2.heap.size≠w.heap.size by omega) _ _ _ _ _ _):T:=h
theorem zap (h:T:=by show ∃ A,l.length - r.length=A;exact ⟨_,rfl⟩):T:=h
theorem zaq (h:T:=by show ∃ X:ByteArray,(⟨(Qr.tx ⟨tk,tt,tg⟩).toArray⟩:ByteArray)=X;exact ⟨_,rfl⟩):T:=h
theorem zar (h:T:=by show Hid ((out++[⟨114,c::Qr.run (s.data.toList.drop (k+1)),gl⟩])++Qr.tokF true (s.data.toList.drop (k+n))=Qr.tokens s.data.toList);exact Lib.hid (by rw[<- HT2.out,Qr.tokF_run gl _ HNS.out,hrl,List.drop_drop,show k+1+(n - 1)=k+n by omega,List.append_assoc];rfl)):T:=h
theorem zas (h:T:=by exact Tx.blk_later (Tx.blk_later (Tx.blk_later (Tx.blk_later (Tx.blk_later KG.out (Tx.newb _ _)) hb1) (Tx.newb _ _)) hb2) ew2):T:=h
theorem zat (h:T:=by show W.heap[w.heap.size]?=some (.cells Qr.zeroQ 29 (0,0));rw[hW];exact Tx.blk_later (heap_alloc_new w _) (Tx.newb _ _)):T:=h
theorem zau (h:T:=by show (Qr.lk r.tail).k≠0;rw[show Qr.lk r.tail=⟨nk,nt,true⟩ from hn];intro h0;have h0':nk=0:=h0;rw[h0']at hN;simp at hN):T:=h
theorem zav (h:T:=by exact Lib.hid (fun w=>r21_is_c ⟨tk,tt,tg⟩ hleg 40 oZ w)):T:=h
theorem zaw (h:T:=by show ∃ U3,(w1.alloc (.cells #[.slice fa FF.length fc] 35)).alloc (.cells #[.func (.func 84) #[] #[.pointer (some ⟨w1.heap.size,0,none⟩)]] 104)=U3;exact ⟨_,rfl⟩):T:=h
theorem zax (h:T:=by show W5.heap[w.heap.size+1]?=some (.cells #[.int .i64 0] 44 (0,0));rw[hW5];exact Qr.far6 HD3.out (show w.heap.size+1≠w.heap.size by omega) _ _ _ _ _ _):T:=h
theorem zay (h:T:=by exact Tx.newb w3 (.cells #[.int .i64 po,.int .i64 pf,.slice psa psn psc,.int .i64 pa,.int .i64 pb,.slice pka pkn pkc,.int .i64 (A2:Int),.bool true] 141)):T:=h
theorem zaz (h:T:=by show ∃ y,T[k]?=some y;exact ⟨_,List.getElem?_eq_getElem hlt⟩):T:=h
theorem zba (h:T:=by show ∃ W,(w.alloc (.cells Qr.zeroP 141)).alloc (.cells #[.int .i64 1,.string ⟨tt.toArray⟩,.bool tg] 144)=W;exact ⟨_,rfl⟩):T:=h
theorem zbb (h:T:=by exact (((((Qr.Fr.refl g w).alloc _).trans (.of_below hb1)).alloc _).trans (.of_below hb2)).trans (.of_below ew2)):T:=h
theorem zbc (h:T:=by show w.heap.size<w1.heap.size;have:=hb1.size;simp at this;omega):T:=h
theorem zbd (h:T:=by exact Tx.ent4 wr (.int .i64 y.fld) (.string ⟨y.word.toArray⟩) (.int .i64 y.id) (.slice ya y.at_.length yc) 100):T:=h
theorem zbe (h:T:=by exact Tx.blk_later (Tx.blk_later (Tx.blk_later (Tx.blk_later (heap_alloc_new w _) hb1) (Tx.newb _ _)) hb2) ew2):T:=h
theorem zbf (h:T:=by show ∀ b,(Value.slice va acc.length vc).ownBlock=some b->w.heap.size+1<=b/\b<wr.heap.size;exact fun b hb=>hown.lt b hb):T:=h
theorem zbg (h:T:=by show Below w.heap.size w (w2.alloc (.cells #[.slice ta l.length tc,.int .i64 0] 129));exact hb02.alloc oQ _):T:=h
theorem zbh (h:T:=by exact Tx.al2 ew6 (.cells #[.int .i64 po,.int .i64 pf,.slice psa psn psc,.int .i64 pa,.int .i64 pb,.slice pka pkn pkc,.int .i64 uo,.int .i64 uf,.slice usa usn usc,.int .i64 ua,.int .i64 ub,.slice uka ukn ukc] 29)):T:=h
theorem zbi (h:T:=by exact fun w h=>look1 (K:=N) (w:=w) (g:=g) (l:=l) hn hN h):T:=h
theorem zbj (h:T:=by show ∃ W,(w.alloc (.cells #[.int .i64 id,.int .i64 ver,.int .i64 kind,.string lang,.slice a fs.length c] 51)).alloc (.cells #[.string ⟨#[49,48,48]⟩,.string ⟨#[49,49,48]⟩,.string ⟨#[55,48,48]⟩] 9)=W;exact ⟨_,rfl⟩):T:=h
theorem zbk (h:T:=by exact DataW.trod_string Tryz.underlying9 (show DataW.trod enc Tryz.prog W base sp hd n 9 [c1]=some x1 from by simpa [k9] using hg 1 _ rfl)):T:=h
theorem zbl (h:T:=by show Below w.heap.size w W;rw[<- hW];exact ((Tx.newb _ _).alloc oZ _).alloc oW _):T:=h
theorem zbm (h:T:=by show Sr.cmp lang.data.toList a.data.toList b.data.toList=if X.data.toList=Y.data.toList then Sr.cmpB a.data.toList b.data.toList else Sr.cmpB X.data.toList Y.data.toList;unfold Sr.cmp;rw[hXd,hYd]):T:=h
theorem zbn (h:T:=by show Hid (Qr.QC (w2.heap.size+1) (W5.drewN nq) q [.int .i64 qo,.int .i64 qf,.slice qsa qsn qsc,.int .i64 qa,.int .i64 qb,.slice qka qkn qkc]);exact Lib.hid (HQ5.out.later (Tx.drawn (Below.refl _ _) nq))):T:=h
theorem zbo (h:T:=by show ∃ W,w.alloc (.cells Qr.zeroP 141)=W;exact ⟨_,rfl⟩):T:=h
theorem zbp (h:T:=by exact Lib.hid (fun w=>r21_anyOp_c ⟨114,tt,tg⟩ hleg w)):T:=h
theorem zbq (h:T:=by exact Lib.hid (fun w=>r21_starts_c ⟨tk,tt,tg⟩ hleg w)):T:=h
theorem zbr (h:T:=by exact Tx.ent4 wr (.string f.tag) (.string f.ind) (.slice sa f.subs.length sc) (.int .i64 f.auth) 84):T:=h
theorem zbs (h:T:=by show W.heap.size=w.heap.size+2;rw[<- hW];simp):T:=h
theorem zbt (h:T:=by show (w2.alloc (.cells #[.slice ta l.length tc,.int .i64 0] 129)).heap.size=w2.heap.size+1;simp):T:=h
theorem zbu (h:T:=by show Below w.heap.size w W;rw[hW];exact ((Tx.newb w _).trans ((Tx.newb _ _).mono oZ))):T:=h
theorem zbv (h:T:=by show Below w.heap.size w w4;exact hb03.trans ((hF4.below (Nat.le_refl _) oQ).mono oQ)):T:=h
theorem zbw (h:T:=by show U3.cell? ⟨w1.heap.size+1,0,none⟩=some (.func (.func 84) #[] #[.pointer (some ⟨w1.heap.size,0,none⟩)]);rw[<- hU3];simp):T:=h
theorem zbx (h:T:=by exact Tx.blk (show W.heap[w.heap.size]?=some (.cells #[.int .i64 0,.int .i64 0,.slice none 0 0,.int .i64 0,.int .i64 0,.slice none 0 0] 29 (0,0)) by rw[<- hW];exact heap_alloc_new _ _)):T:=h
theorem zby (h:T:=by show Below wr.heap.size wr w2;exact (hb1.alloc hb1.size _).grown hg2 yW (fun j hj=>(hown1.lt j hj).1)):T:=h
theorem zbz (h:T:=by exact Tx.ent5 wr (.int .i64 x.id) (.int .i64 x.ver) (.int .i64 x.kind) (.string x.lang) (.slice fa x.fields.length fc) 51):T:=h
theorem zca (h:T:=by exact Lib.hid (fun w=>r21_is_c ⟨nk,nt,ng⟩ hlegn 42 oZ w)):T:=h
theorem zcb (h:T:=by show A<=toks.length;omega):T:=h
theorem zcc (h:T:=by exact Ix.pick_le (p:=p) (codes:=codes.data.toList) (fs:=fs.take k) (fun g hg=>hM.words g (List.mem_of_mem_take hg) _)):T:=h
theorem zcd (h:T:=by show Hid (w1.heap[w.heap.size]?=some (.cells Qr.zeroQ 29 (0,0)));exact Lib.hid (Tx.blk_later (heap_alloc_new w _) hb1)):T:=h
theorem zce (h:T:=by show Below w.heap.size w w2;exact (hB.trans (hb1.mono hB.size)).trans (hb2.mono oQ)):T:=h
theorem zcf (h:T:=by exact Lib.hid (show (A:Int)=((l.length - r.length:Nat):Int) by omega)):T:=h
theorem zcg (h:T:=by show ∃ X:ByteArray,(⟨(Qr.tx ⟨nk,nt,ng⟩).toArray⟩:ByteArray)=X;exact ⟨_,rfl⟩):T:=h
theorem zch (h:T:=by exact (fun W' h9=>HIH.out x (List.mem_of_getElem? hx) _ W' (hq.later h9) ((HPX.out.below hbr).below h9) ((HF.out.below hbr).below h9):∀ W',Below wr.heap.size wr W'->_)):T:=h
theorem zci (h:T:=by show Below wr.heap.size wr w1;exact (Tx.newb wr _).grown hg1 oZ (fun j hj=>by cases hj;exact Nat.le_refl _)):T:=h
theorem zcj (h:T:=by show ∃ W,W=(w.alloc (.cells Qr.zeroQ 29)).alloc (.cells #[.int .i64 0] 44);exact ⟨_,rfl⟩):T:=h
theorem zck (h:T:=by exact k3.alloc k3.size (.cells #[.int .i64 qo,.int .i64 qf,.slice qsa qsn qsc,.int .i64 qa,.int .i64 qb,.slice qka qkn qkc,.int .i64 (A:Int),.bool true] 141)):T:=h
theorem zcl (h:T:=by show (ws.map (·.data.toList)).map (fun x=>(⟨x.toArray⟩:ByteArray))=ws;rw[List.map_map];exact (List.map_congr_left (fun x _=>rfl)).trans (List.map_id _)):T:=h
theorem zcm (h:T:=by exact Tx.put6 hB (Nat.le_refl _) (.int .i64 x.op) (.int .i64 x.fld) (.slice sa x.ws.length sc) (.int .i64 x.a) (.int .i64 x.b) (.slice ka x.ks.length kc)):T:=h
theorem zcn (h:T:=by exact run_append_own_at (P:=P) w base t o.type e i z size bytes ht hi hz hsize hby hzs hsz v n xs hown ad m c news hl (hnews ad rfl) h1 h63 hbytes hbase):T:=h
theorem zco (h:T:=by exact h.at_ r.tail (Qr.tail_suf hr)):T:=h
theorem zcp (h:T:=by exact Tx.newb w3 (.cells #[.int .i64 qo,.int .i64 qf,.slice qsa qsn qsc,.int .i64 qa,.int .i64 qb,.slice qka qkn qkc,.int .i64 (A:Int),.bool true] 141)):T:=h
theorem zcq (h:T:=by show ∃ x,l[k]?=some x;exact ⟨_,List.getElem?_eq_getElem hlt⟩):T:=h
theorem zcr (h:T:=by exact (fun ty=>Lib.run_next_end_at wr w2.heap.size S pos ty hit hp:∀ ty,(Instr.next (.pointer (some ⟨w2.heap.size,0,none⟩)) true ty).run Tryz.prog wr=_)):T:=h
theorem zcs (h:T:=by exact (hg8.frozen_far ⟨g,K*4+3,none⟩ (by simp;have:=HGL.out;omega) HGN.out).trans ((Tx.newb _ _).frozen (p:=⟨g,K*4+3,none⟩) HGL.out |>.trans F3.out)):T:=h
theorem zct (h:T:=by exact Tx.newb w3 (.cells #[.int .i64 po,.int .i64 pf,.slice psa psn psc,.int .i64 pa,.int .i64 pb,.slice pka pkn pkc,.int .i64 pn,.bool false] 141)):T:=h
theorem zcu (h:T:=by exact fun w h=>look0 (r:=r.tail.tail) (K:=K2) (w:=w) (g:=g) (l:=l) ht2 hK2 h):T:=h
theorem zcv (h:T:=by show Below W.heap.size W w2;exact (hb.alloc hbs _).grown hg2 oW (fun j hj=>(hown.lt j hj).1)):T:=h
theorem zcw (h:T:=by exact IntWalk.i64_in ((k:Int)+1) ⟨oQ,oQ⟩):T:=h
theorem zcx (h:T:=by exact Lib.hid (Rc.recE_3b (r:=⟨id,ver,kind,lang,fs⟩) J1.out J2.out J3.out J4.out (Rc.lang_at hlt (by rw[hx];exact decide_eq_false oQ)))):T:=h
theorem zcy (h:T:=by exact Tx.ent1 w (.slice a T.length c) 24):T:=h
theorem zcz (h:T:=by exact Tx.ent6 w1 (.int .i64 q.op) (.int .i64 q.fld) (.slice sa q.ws.length sc) (.int .i64 q.a) (.int .i64 q.b) (.slice ka q.ks.length kc) 29):T:=h
theorem zda (h:T:=by show W6.heap[wo.heap.size]?=some (.cells #[.int .i64 3,.string (s.extract k (k+1)),.bool gl] 144 (0,0));rw[hW6];exact heap_alloc_new _ _):T:=h
theorem zdb (h:T:=by show ∃ x,f.subs[k]?=some x;exact ⟨_,List.getElem?_eq_getElem hlt⟩):T:=h
theorem zdc (h:T:=by exact (List.getElem?_eq_some_iff.1 h).1):T:=h
theorem zdd (h:T:=by show ¬ (1000:Int)<(s.size:Int);omega):T:=h
theorem zde (h:T:=by show Hid ((out++[194])++Ix.plainB (s.data.toList.drop (k+1))=Ix.plainB s.data.toList);exact Lib.hid OQ):T:=h
theorem zdf (h:T:=by exact (Qr.tail_suf hr).length_le):T:=h
theorem zdg (h:T:=by show W.cell? ⟨w.heap.size,0,none⟩=some (.slice xa T.length xc);rw[<- hW];exact cell_later ((Tx.newb _ _).alloc oZ _) oZ):T:=h
theorem zdh (h:T:=by show W8.ownsRow w.heap.size 205 3 u3 out.length (out.flatMap Qr.encT);rw[hW8];exact Tx.own_set (Tx.own_set own6 HNE.out _) HNE.out _):T:=h
theorem zdi (h:T:=by exact (Qr.tail_eats (r:=r) (by rw[ht,h1];simp)).2):T:=h
theorem zdj (h:T:=by exact Tx.blk_far (a:=⟨g,1,none⟩) kT2 (show w1.heap.size≠g by omega) (.int .i64 ((A:Int)+1))):T:=h
theorem zdk (h:T:=by exact Rc.firstNZ_step (l:=L.map fun x=>Rc.yearIn x.data.toList) (k:=m) (n:=Rc.yearIn x.data.toList) yJ):T:=h
theorem zdl (h:T:=by show Rc.indOk f.ind.data.toList=true;rw[hq];unfold Rc.indB;simp[*]):T:=h
theorem zdm (h:T:=by exact Tx.blk_far (a:=⟨g,1,none⟩) kR2 (show w.heap.size≠g by omega) (.int .i64 ((A:Int)+1))):T:=h
theorem zdn (h:T:=by show w1.heap[w.heap.size]?=some (.cells Qr.zeroQ 29 (0,0));exact (hF1.block w.heap.size oQ oZ).trans (heap_alloc_new w _)):T:=h
theorem zdo (h:T:=by exact (hF4.block (w.heap.size+1) oQ oQ).trans I3.out):T:=h
theorem zdp (h:T:=by show ∃ W,w.alloc (.cells Qr.zeroQ 29)=W;exact ⟨_,rfl⟩):T:=h
theorem zdq (h:T:=by show ∃ x,ks[k]?=some x;exact ⟨_,List.getElem?_eq_getElem hlt⟩):T:=h
theorem zdr (h:T:=by show 0<l.length;exact List.length_pos_iff.2 hne):T:=h
theorem zds (h:T:=by exact (hF1.trans (.of_below hb2)).trans (.of_below ew2)):T:=h
theorem zdt (h:T:=by exact one_i64 Tryz.underlying3 (show DataW.trod enc Tryz.prog W base sp hd n 3 [c0]=some x0 from by simpa [k3] using hg 0 _ rfl)):T:=h
theorem zdu (h:T:=by exact Tx.ent6 w (.int .i64 op) (.int .i64 fl) (.slice sa ws.length sc) (.int .i64 ya) (.int .i64 yb) (.slice ka ks.length kc) 29):T:=h
theorem zdv (h:T:=by show w1.heap.size<w2.heap.size;have:=hb2.size;simp at this;omega):T:=h
theorem zdw (h:T:=by show ∃ xs,Qr.wordsB tt=xs;exact ⟨_,rfl⟩):T:=h
theorem zdx (h:T:=by exact hown.out.alloc (.cells #[.int .i64 x.id,.int .i64 x.ver,.int .i64 x.kind,.string x.lang,.slice fa x.fields.length fc] 51)):T:=h
theorem zdy (h:T:=by exact Tx.newb w2 (.cells #[.slice ta l.length tc,.int .i64 0] 129)):T:=h
theorem zdz (h:T:=by exact Tx.c8 KR.out):T:=h
theorem zea (h:T:=by show Below w.heap.size w W5;rw[hW5];exact Tx.put6 hb04 (Nat.le_refl _) _ _ _ _ _ _):T:=h
theorem zeb (h:T:=by show W.cell? ⟨w.heap.size+1,4,none⟩=some (.slice fa r.fields.length fc);rw[<- hW];exact cell_later (Tx.newb _ _) oZ):T:=h
theorem zec (h:T:=by exact Br.FA.of_own (enc:=Qr.encT) (size:=3) (fun _=>rfl) hown rfl):T:=h
theorem zed (h:T:=by exact (hF4.block w.heap.size oQ oQ).trans I2.out):T:=h
theorem zee (h:T:=by show U3.cell? ⟨w1.heap.size,0,none⟩=some (.slice fa FF.length fc);rw[<- hU3];simp):T:=h
theorem zef (h:T:=by exact Qr.tail_at hr (by rw[ht,h1];simp)):T:=h
theorem zeg (h:T:=by show ∃ K,Qr.kR nk=K;exact ⟨_,rfl⟩):T:=h
theorem zeh (h:T:=by show ∃ W,w.alloc (.cells #[.int .i64 0,.int .i64 0,.slice none 0 0,.int .i64 0,.int .i64 0,.slice none 0 0] 29)=W;exact ⟨_,rfl⟩):T:=h
theorem zei (h:T:=by show Hid (out++Qr.tokF false (s.data.toList.drop (k+1))=Qr.tokens s.data.toList);exact Lib.hid (by rw[<- HT2.out,Qr.tokF_blank])):T:=h
theorem zej (h:T:=by exact run_append_none_any (P:=P) (w:=w) base t o.type e i size ht hi v n xs hown c):T:=h
theorem zek (h:T:=by show Below wr.heap.size wr w3;exact hb2.grown hg3 hb2.size (fun j hj=>(hown2.lt j hj).1)):T:=h
theorem zel (h:T:=by exact Tx.blk_later (Tx.blk_later (heap_alloc_new w1 _) hb2) ew2):T:=h
theorem zem (h:T:=by exact Lib.hid (fun w=>r21_is_c ⟨nk,nt,ng⟩ hlegn 58 oZ w)):T:=h
theorem zen (h:T:=by show xs.flatMap enc=(xs.take k).flatMap enc++(xs.drop k).flatMap enc;rw[<- List.flatMap_append,List.take_append_drop]):T:=h
theorem zeo (h:T:=by exact (Qr.tail_eats (r:=r) (by rw[ht];exact hk0)).2):T:=h
theorem zep (h:T:=by show ys[k]?=some (if Rc.pubTag f then Rc.yearF (Rc.allV f.subs [99]) else 0);rw[<- HYS.out,List.getElem?_map,hf];rfl):T:=h
theorem zeq (h:T:=by exact Tx.newb w3 (.cells #[.int .i64 3,.int .i64 f,.slice sa xs.length sc,.int .i64 0,.int .i64 0,.slice none 0 0] 29)):T:=h
theorem zer (h:T:=by show s.data.toList.drop k=[];exact List.drop_eq_nil_of_le aK):T:=h
theorem zes (h:T:=by show Below w1.heap.size w1 U3;rw[<- hU3];exact (Tx.newb _ _).alloc oZ _):T:=h
theorem zet (h:T:=by show Hid (Qr.treeE (.mk op fl ws ya yb ks)=Qr.treeL (Qr.nodeE (.mk op fl ws ya yb ks)) ks);exact Lib.hid (by rw[Qr.treeE])):T:=h
theorem zeu (h:T:=by exact h.leg (Qr.tail_suf hr)):T:=h
theorem zev (h:T:=by show W.cell? ⟨w.heap.size,4,none⟩=some (.slice a fs.length c);rw[<- hW];simp):T:=h
theorem zew (h:T:=by show news=[];exact List.eq_nil_of_length_eq_zero (by rw[hl];omega)):T:=h
theorem zex (h:T:=by show ∃ W,(w.alloc (.cells Qr.zeroP 141)).alloc (.cells #[.int .i64 2,.string ⟨tt.toArray⟩,.bool tg] 144)=W;exact ⟨_,rfl⟩):T:=h
theorem zey (h:T:=by exact Tx.blk_later (Tx.blk_later KG1.out hb2) ew2):T:=h
theorem zez (h:T:=by exact Tx.blk_later (Tx.blk_later KR1.out hb2) ew2):T:=h
theorem zfa (h:T:=by exact (hg8.cell_far ⟨g,K*4+3,none⟩ (by simp;have:=HGL.out;omega) HGN.out).trans (cell_later (Tx.newb _ _) E3.out)):T:=h
theorem zfb (h:T:=by show W.cell? ⟨w.heap.size+1,2,none⟩=some (.int .i64 r.kind);rw[<- hW];exact cell_later (Tx.newb _ _) oZ):T:=h
theorem zfc (h:T:=by show ((xs0.length:Int) == 0)=false;exact beq_eq_false_iff_ne.2 (fun h=>hx0 (List.eq_nil_of_length_eq_zero oQ))):T:=h
theorem zfd (h:T:=by show Below w.heap.size w W;rw[<- hW];exact (Tx.newb _ _).alloc oZ _):T:=h
theorem zfe (h:T:=by exact Lib.hid hA):T:=h
theorem zff (h:T:=by show Below W.heap.size W wx;assumption):T:=h
theorem zfg (h:T:=by show W.cell? ⟨w.heap.size+1,1,none⟩=some (.int .i64 r.ver);rw[<- hW];exact cell_later (Tx.newb _ _) oZ):T:=h
theorem zfh (h:T:=by show ∃ K,Qr.kR tk=K;exact ⟨_,rfl⟩):T:=h
theorem zfi (h:T:=by show acc.length<=1000000;omega):T:=h
theorem zfj (h:T:=by show W.cell? ⟨w.heap.size+1,0,none⟩=some (.int .i64 r.id);rw[<- hW];exact cell_later (Tx.newb _ _) oZ):T:=h
theorem zfk (h:T:=by show W.cell? ⟨w.heap.size+1,3,none⟩=some (.string r.lang);rw[<- hW];exact cell_later (Tx.newb _ _) oZ):T:=h
theorem zfl (h:T:=by exact Qr.tail_eats hk1):T:=h
theorem zfm (h:T:=by show Qr.Fr g wr w2;exact .of_below hb2):T:=h
theorem zfn (h:T:=by show ∀ ad,ta=some ad->ad.block<w2.heap.size;exact Tx.own_blt hown):T:=h
theorem zfo (h:T:=by exact Lib.hid (Tx.blk_later (Tx.blk_later J2.out hb2) ew2)):T:=h
theorem zfp (h:T:=by exact Lib.hid (Tx.blk_later (Tx.blk_later J3.out hb2) ew2)):T:=h
theorem zfq (h:T:=by exact hb.alloc hb.size (.cells #[.string f.tag,.string f.ind,.slice sa f.subs.length sc,.int .i64 f.auth] 84)):T:=h
theorem zfr (h:T:=by exact Tx.ent4 w (.int .i64 y.fld) (.string ⟨y.word.toArray⟩) (.int .i64 y.id) (.slice ya y.at_.length yc) 100):T:=h
theorem zfs (h:T:=by show q.length<=K;rw[<- hq];exact List.length_take_le _ _):T:=h
theorem zft (h:T:=by exact fun w h=>look1 (K:=58) (w:=w) (g:=g) (l:=l) hn hN h):T:=h
theorem zfu (h:T:=by exact Lib.hid (Tx.blk_later KR1.out hb2)):T:=h
theorem zfv (h:T:=by show Region.wanted o (yielded ops a.tmps)=true;simp[Region.wanted,hgd]):T:=h
theorem zfw (h:T:=by exact h.below hB):T:=h
theorem zfx (h:T:=by exact Tx.newb w (.cells #[.int .i64 id,.int .i64 ver,.int .i64 kind,.string lang,.slice a fs.length c] 51)):T:=h
theorem zfy (h:T:=by exact h.at_ r hr):T:=h
theorem zfz (h:T:=by show ∃ x,xs[k]?=some x;exact ⟨_,List.getElem?_eq_getElem hlt⟩):T:=h
theorem zga (h:T:=by exact Qr.PS.of HPP.out KG.out hF3 HTE.out.1 kg3 HA1.out):T:=h
theorem zgb (h:T:=by show Hid (r.tail.tail <:+ r/\True);exact Lib.hid ⟨htt,trivial⟩):T:=h
theorem zgc (h:T:=by show Rc.indOk f.ind.data.toList=false;rw[hq];unfold Rc.indB;simp[*]):T:=h
theorem zgd (h:T:=by show (Qr.lk r).k≠0;rw[ht];exact hk0):T:=h
theorem zge (h:T:=by show ∀ b,v'.ownBlock=some b->b<w7.heap.size;exact fun b hb=>(hown8.lt b hb).2):T:=h
theorem zgf (h:T:=by show ∃ X:ByteArray,(⟨(Qr.tx (Qr.lk r')).toArray⟩:ByteArray)=X;exact ⟨_,rfl⟩):T:=h
theorem zgg (h:T:=by show Hid (∀ b,u4.ownBlock=some b->b≠wo.heap.size);exact Lib.hid (fun b hb=>by have:=(hown.lt b hb).2;omega)):T:=h
theorem zgh (h:T:=by show s.data.toList.drop s.size=[];exact List.drop_eq_nil_of_le zsh):T:=h
theorem zgi (h:T:=by exact Lib.hid (Tx.blk_later (Tx.blk_later KG.out (Tx.newb w _)) hb1)):T:=h
theorem zgj (h:T:=by exact Tx.below_drewN (Below.refl wr.heap.size wr) nq):T:=h
theorem zgk (h:T:=by exact List.mem_of_getElem? hx):T:=h
theorem zgl (h:T:=by exact IntWalk.i64_in ((A:Int)+2) ⟨oQ,oQ⟩):T:=h
theorem zgm (h:T:=by show j<xs.length;exact (List.getElem?_eq_some_iff.1 hx).1):T:=h
theorem zgn (h:T:=by show ∃ t,Qr.lk r=t;exact ⟨_,rfl⟩):T:=h
theorem zgo (h:T:=by show Qr.Fr g w w1;exact ((Qr.Fr.refl g w).alloc _).trans (.of_below hb1)):T:=h
theorem zgp (h:T:=by show ∃ l,Qr.tokens s.data.toList=l;exact ⟨_,rfl⟩):T:=h
theorem zgq (h:T:=by show Hid (Tx.foldT (Sr.replStep L) (out++[32]) (s.data.toList.drop (pos+K))=F);exact Lib.hid hst.symm):T:=h
theorem zgr (h:T:=by show (⟨(Qr.tx ⟨tk,tt,tg⟩).toArray⟩:ByteArray)=⟨tt.toArray⟩;unfold Qr.tx;rw[if_pos (.inr h2)]):T:=h
theorem zgs (h:T:=by show Hid (Tx.valid (s.data.toList.drop (pos+K))=true);exact Lib.hid hv2):T:=h
theorem zgt (h:T:=by show ∃ ys,fs.map (fun f=>if Rc.pubTag f then Rc.yearF (Rc.allV f.subs [99]) else 0)=ys;exact ⟨_,rfl⟩):T:=h
theorem zgu (h:T:=by show Below W.heap.size W w7;exact (Tx.step hb hb2).grown hg7 oQ (fun i hi=>(own2.lt i hi).1)):T:=h
theorem zgv (h:T:=by show ∃ W6,W6=wo.alloc (.cells #[.int .i64 3,.string (s.extract k (k+1)),.bool gl] 144);exact ⟨_,rfl⟩):T:=h
theorem zgw (h:T:=by exact r20_words_c f sa sc codes w' (HSUB.out.below hb') hsl hs HSZ.out (by rw[HWF.out];omega)):T:=h
theorem zgx (h:T:=by exact Lib.hid (Qr.termE_3 (o:=op) (f:=fl) (a:=ya) (b:=yb) (ws:=ws) (n:=ks.length) oQ)):T:=h
theorem zgy (h:T:=by exact Lib.hid (fun hw=>Qr.termE_w (o:=op) (f:=fl) (a:=ya) (b:=yb) (ws:=ws) (n:=ks.length) hw)):T:=h
theorem zgz (h:T:=by show ∃ X,Qr.tx ⟨nk,nt,ng⟩=X;exact ⟨_,rfl⟩):T:=h
theorem zha (h:T:=by show Hid (Tx.foldT (Sr.replStep L) (out++q) (s.data.toList.drop (pos+K))=F);exact Lib.hid hst.symm):T:=h
theorem zhb (h:T:=by exact info_parts info_int):T:=h
theorem zhc (h:T:=by exact HZ.out x (List.mem_of_getElem? hx)):T:=h
theorem zhd (h:T:=by exact Lib.hid (Tx.blk_later KP7.out hb8)):T:=h
theorem zhe (h:T:=by exact Lib.hid (Tx.blk_later KR7.out hb8)):T:=h
theorem zhf (h:T:=by show ∃ acc,Ix.pick p codes.data.toList (fs.take k)=acc;exact ⟨_,rfl⟩):T:=h
theorem zhg (h:T:=by show ∃ X:ByteArray,(⟨(Sr.key lang.data.toList a.data.toList).toArray⟩:ByteArray)=X;exact ⟨_,rfl⟩):T:=h
theorem zhh (h:T:=by show ∃ Y:ByteArray,(⟨(Sr.key lang.data.toList b.data.toList).toArray⟩:ByteArray)=Y;exact ⟨_,rfl⟩):T:=h
theorem zhi (h:T:=by exact Lib.hid (Tx.blk_later (show (W5.drewN nq).heap[w.heap.size+1]?=_ from HE5.out) hb6)):T:=h
theorem zhj (h:T:=by exact fun w h=>HSUB.out k r1.tail w oQ (by have:=hte.2;omega) (Qr.tail_suf hs1) h):T:=h
theorem zhk (h:T:=by exact plain_map n r (by simp at h;omega) (by simpa using hvr)):T:=h
theorem zhl (h:T:=by exact Lib.hid (Tx.blk_later K2.out hb1)):T:=h
theorem zhm (h:T:=by exact Lib.hid (Tx.blk_later K3.out hb1)):T:=h
theorem zhn (h:T:=by exact List.length_eq_one_iff.1 (h5 oX)):T:=h
theorem zho (h:T:=by show Utf8.valid (r:Int)=true;unfold Utf8.valid;simp;omega):T:=h
theorem zhp (h:T:=by show W5.cell? ⟨w.heap.size+1,0,none⟩=some (.int .i64 0);exact ec 0):T:=h
theorem zhq (h:T:=by exact Lib.hid (Tx.blk_later (show (W5.drewN nq).heap[w.heap.size]?=_ from HD5.out) hb6)):T:=h
theorem zhr (h:T:=by exact List.mem_of_getElem? hf):T:=h
theorem zhs (h:T:=by exact hM.words f hfm codes.data.toList):T:=h
theorem zht (h:T:=by show ((c.toNat:Int) == 32)=false;exact beq_eq_false_iff_ne.2 (Qr.kn (n:=32) oX c32)):T:=h
theorem zhu (h:T:=by show ((c.toNat:Int) == 34)=false;exact beq_eq_false_iff_ne.2 (Qr.kn (n:=34) oX c34)):T:=h
theorem zhv (h:T:=by exact h.leg hr):T:=h
theorem zhw (h:T:=by show Hid (r1.tail <:+ toks/\r1.tail.length+1<=r1.length);exact Lib.hid ⟨Qr.tail_suf hs1,hte.2⟩):T:=h
theorem zhx (h:T:=by exact Lib.hid (Tx.blk_later (Tx.blk_later KR2.out hb3) ew3)):T:=h
theorem zhy (h:T:=by exact Lib.hid (Rc.SubA.of_fa (Sr.lit_fa Rc.encS_len (xs:=[(97,title)]) KS oZ))):T:=h
theorem zhz (h:T:=by show ((k:Int) == 0)=false;exact beq_eq_false_iff_ne.2 oQ):T:=h
theorem zia (h:T:=by show Utf8.decode S pos=Tx.rdec (S.data.toList.drop pos);rw[<- Lib.decodeL_drop,hd]):T:=h
theorem zib (h:T:=by show Below wo.heap.size wo W6;rw[hW6];exact Tx.newb _ _):T:=h
theorem zic (h:T:=by show W.heap.size=w.heap.size+2;rw[hW];simp):T:=h
theorem zid (h:T:=by exact fun w h=>hSub r.tail w oQ (Qr.tail_suf hr) h):T:=h
theorem zie (h:T:=by show b=false;rw[<- hb,decide_eq_false h0,decide_eq_true h1,decide_eq_false h2];rfl):T:=h
theorem zif (h:T:=by exact cell_later hb1 c1):T:=h
theorem zig (h:T:=by exact cell_later hb1 c0):T:=h
theorem zih (h:T:=by exact info_parts info_str):T:=h
theorem zii (h:T:=by exact Lib.hid (show Rc.codeB x=false by unfold Rc.codeB Rc.lowB;rw[hd];simp;omega)):T:=h
theorem zij (h:T:=by show b=true;rw[<- hb,decide_eq_false h0,decide_eq_true h1,decide_eq_true h2];rfl):T:=h
theorem zik (h:T:=by exact Lib.hid CC):T:=h
theorem zil (h:T:=by show ¬ ((xs0.length:Int)=0);exact fun h=>hx0 (List.eq_nil_of_length_eq_zero oQ)):T:=h
theorem zim (h:T:=by show Qr.nodesL (acc++[q])<=1000000;rw[Qr.nodesL_app];simp only[Qr.nodesL];omega):T:=h
theorem zin (h:T:=by exact Ix.nums_le (fs:=fs.take k) (fun g hg=>hM.subs g (List.mem_of_mem_take hg))):T:=h
theorem zio (h:T:=by exact (fun W' ia ic h8=>r22_Has_c L r.id ia ic W' h8:∀ W' ia ic,Ix.IA W' ia ic L->_)):T:=h
theorem zip (h:T:=by show ∀ {x:Sr.By},s.data.toList=x->(⟨x.toArray⟩:ByteArray)=s;exact fun {x} h=>by rw[<- h]):T:=h
theorem ziq (h:T:=by show ∃ r,rs[k]?=some r;exact ⟨_,List.getElem?_eq_getElem hlt⟩):T:=h
theorem zir (h:T:=by show ∃ y,xs[k]?=some y;exact ⟨_,List.getElem?_eq_getElem hlt⟩):T:=h
theorem zis (h:T:=by show codes.data.toList.isEmpty=false;simpa using hc0):T:=h
theorem zit (h:T:=by exact Ix.pick_take (p:=p) (codes:=codes.data.toList) hf):T:=h
theorem ziu (h:T:=by exact (hF2.trans (.of_below hb3)).trans (.of_below ew3)):T:=h
theorem ziv (h:T:=by show (K:Int)<(T3.length:Int);exact Int.ofNat_lt.2 (List.getElem?_eq_some_iff.1 hTK).1):T:=h
theorem ziw (h:T:=by show xs≠[];intro h0;subst h0;simp at hk):T:=h
theorem zix (h:T:=by exact Ix.own_sla hown2):T:=h
theorem ziy (h:T:=by show s.data.toList.drop pos=[];exact List.drop_eq_nil_of_le (by rw[<- size_eq];omega)):T:=h
theorem ziz (h:T:=by exact (Qr.tail_eats hk2).1.trans HTE.out.1):T:=h
theorem zja (h:T:=by show (Ix.postsTo r k).length=L0;rw[<- hE.out,List.length_map];exact HL0.out):T:=h
theorem zjb (h:T:=by show Utf8.decode s pos=rdec (s.data.toList.drop pos);rw[<- decodeL_drop,hd]):T:=h
theorem zjc (h:T:=by exact Lib.hid (own_below (own_below HOU.out hb1) hb3)):T:=h
theorem zjd (h:T:=by show ∃ A,l.length - ([]:List Qr.Tok).length=A;exact ⟨_,rfl⟩):T:=h
theorem zje (h:T:=by show ∃ n0,Qr.nodeE (.mk op fl ws ya yb ks)=n0;exact ⟨_,rfl⟩):T:=h
theorem zjf (h:T:=by show ∀ x∈L,x.size<=100000;exact fun x hx=>Rc.all_size hgf [99] (by rw[hL];exact hx)):T:=h
theorem zjg (h:T:=by exact Ix.IA.of_own ho1 rfl):T:=h
theorem zjh (h:T:=by exact Tx.step k2 hb3):T:=h
theorem zji (h:T:=by exact Qr.tail_at hr (by rw[ht];exact hk0)):T:=h
theorem zjj (h:T:=by exact Lib.hid (HB3.out.grown hg5 HB3.out.size (fun i hi=>(HVL.out i hi).1))):T:=h
theorem zjk (h:T:=by show Tryz.prog.cellsOf 9=1;kernel_rfl):T:=h
theorem zjl (h:T:=by show Hid (Qr.flat op x=x.ks);exact Lib.hid (by unfold Qr.flat;rw[if_pos HO.out])):T:=h
theorem zjm (h:T:=by exact Lib.hid (Tx.blk_later KR3.out hb4)):T:=h
theorem zjn (h:T:=by show A1<toks.length;have:=hte.2;have:=(Qr.tail_suf hs1).length_le;omega):T:=h
theorem zjo (h:T:=by exact hF35.own hown (show g<w.heap.size+1 by omega)):T:=h
theorem zjp (h:T:=by exact (Qr.tail_eats (r:=r.tail) (by rw[h5];simp)).2):T:=h
theorem zjq (h:T:=by show S.data.toList.drop pos≠[];exact Tx.drop_ne (by rw[<- Lib.size_eq];exact hp)):T:=h
theorem zjr (h:T:=by exact fun v0 v1 v2 v3 v4 v5=>Tx.put6 hb (Nat.le_refl _) v0 v1 v2 v3 v4 v5):T:=h
theorem zjs (h:T:=by show Below w.heap.size w w6;exact (Tx.drawn hb05 nq).trans (hb6.mono hb05.size)):T:=h
theorem zjt (h:T:=by show W.cell? ⟨w.heap.size,2,none⟩=some (.int .i64 kind);rw[<- hW];simp):T:=h
theorem zju (h:T:=by exact Lib.hid hpt):T:=h
theorem zjv (h:T:=by exact (Below.refl wr.heap.size wr).drew):T:=h
theorem zjw (h:T:=by show s.data.toList.drop k≠[];exact Tx.drop_ne iJ):T:=h
theorem zjx (h:T:=by show U3.heap.size=w1.heap.size+2;rw[<- hU3];simp):T:=h
theorem zjy (h:T:=by show ∃ c,Sr.cnt (Sr.ev (Sr.leafX (T.map (·.1)) r)) (ks.take k)=c;exact ⟨_,rfl⟩):T:=h
theorem zjz (h:T:=by exact Qr.tail_at (Qr.tail_suf hr) (by rw[h5];simp)):T:=h
theorem zka (h:T:=by exact Tx.blk_later (Tx.blk_later KR.out (Tx.newb W (.cells #[] 29))) hb1):T:=h
theorem zkb (h:T:=by exact Lib.hid (Tx.blk_later KR.out hb1)):T:=h
theorem zkc (h:T:=by show W.cell? ⟨w.heap.size,1,none⟩=some (.int .i64 ver);rw[<- hW];simp):T:=h
theorem zkd (h:T:=by exact HS.out.get hy):T:=h
theorem zke (h:T:=by show k<l.length;exact (List.getElem?_eq_some_iff.1 h).1):T:=h
theorem zkf (h:T:=by exact Tx.blk_later (Tx.blk_later KT2.out hb3) ew3):T:=h
theorem zkg (h:T:=by exact Tx.blk_later (Tx.blk_later KG2.out hb3) ew3):T:=h
theorem zkh (h:T:=by exact Tx.blk_later (Tx.blk_later KR2.out hb3) ew3):T:=h
theorem zki (h:T:=by exact (Qr.tail_eats (r:=r) (by rw[ht,hk];simp)).2):T:=h
theorem zkj (h:T:=by show W.cell? ⟨w.heap.size,0,none⟩=some (.int .i64 id);rw[<- hW];simp):T:=h
theorem zkk (h:T:=by show W.cell? ⟨w.heap.size,3,none⟩=some (.string lang);rw[<- hW];simp):T:=h
theorem zkl (h:T:=by exact Ix.pick_len (p:=Rc.tagIs [50,52,53]) (codes:=[97,98,110,112]) hM):T:=h
theorem zkm (h:T:=by exact Sr.letter_true (c:=R) oQ):T:=h
theorem zkn (h:T:=by show Hid (Qr.flat op x=[x]);exact Lib.hid (by unfold Qr.flat;rw[if_neg hxo])):T:=h
theorem zko (h:T:=by exact hF2.set1 (.int .i64 ((A:Int)+1))):T:=h
theorem zkp (h:T:=by show ∃ L,Ix.phrase (T.map (·.1)) f (ws.map (·.data.toList))=L;exact ⟨_,rfl⟩):T:=h
theorem zkq (h:T:=by exact Lib.hid h):T:=h
theorem zkr (h:T:=by show Below w.heap.size w (W.alloc (.cells #[] 29));exact hB.alloc hB.size _):T:=h
theorem zks (h:T:=by show ∃ X:ByteArray,(⟨(Qr.tx (Qr.lk r1)).toArray⟩:ByteArray)=X;exact ⟨_,rfl⟩):T:=h
theorem zkt (h:T:=by exact (hP1.below hb2).below ew2):T:=h
theorem zku (h:T:=by show ∃ t,Qr.lk r.tail=t;exact ⟨_,rfl⟩):T:=h
theorem zkv (h:T:=by show Sr.key lang.data.toList a.data.toList=X.data.toList;rw[<- hX]):T:=h
theorem zkw (h:T:=by show Sr.key lang.data.toList b.data.toList=Y.data.toList;rw[<- hY]):T:=h
theorem zkx (h:T:=by show L.length<=fs.length;rw[<- hL];exact List.length_filter_le _ _):T:=h
theorem zky (h:T:=by show w2.heap.size<wr.heap.size;exact (Array.getElem?_eq_some_iff.1 hit).1):T:=h
theorem zkz (h:T:=by show ((xs0.length:Int) == 1)=false;exact beq_eq_false_iff_ne.2 oQ):T:=h
theorem zla (h:T:=by exact Lib.hid hA2):T:=h
theorem zlb (h:T:=by exact Lib.hid hq):T:=h
theorem zlc (h:T:=by show ((c:Int) == 160)=(c == 160);rw[Bool.eq_iff_iff];simp;omega):T:=h
theorem zld (h:T:=by exact Tx.f2 kT2 (show w1.heap.size≠g by omega)):T:=h
theorem zle (h:T:=by show b=false;rw[<- hb,decide_eq_false h0,decide_eq_false h1];rfl):T:=h
theorem zlf (h:T:=by exact cell_later hb1 c5):T:=h
theorem zlg (h:T:=by exact Lib.hid (show Rc.digB x=false by unfold Rc.digB;simp;omega)):T:=h
theorem zlh (h:T:=by exact Lib.below_iterAt hbw (k:=w2.heap.size) oQ S (pos+K)):T:=h
theorem zli (h:T:=by show Hid (Tx.valid (S.data.toList.drop (pos+K))=true);exact Lib.hid hv2):T:=h
theorem zlj (h:T:=by show Hid (Qr.yearN s.data.toList=none);exact Lib.hid (by rw[HY.out,hn])):T:=h
theorem zlk (h:T:=by exact Lib.hid ((Qr.wz_all true (8*l.length+8)).1 l hok.1 q [] hx)):T:=h
theorem zll (h:T:=by exact ((Qr.eats_all false n).1 _ _ _ hx).1.trans (Qr.tail_suf hr)):T:=h
theorem zlm (h:T:=by show w.heap.size<W.heap.size;rw[<- hW];simp):T:=h
theorem zln (h:T:=by exact Lib.hid (Tx.step (Tx.step hbU hb1) hb3)):T:=h
theorem zlo (h:T:=by show ∃ n,l.length=n+1;exact ⟨l.length - 1,oQ⟩):T:=h
theorem zlp (h:T:=by exact Qr.blk_set1 kg2 (.int .i64 ((A:Int)+1))):T:=h
theorem zlq (h:T:=by exact fun w h=>cut_c tt x y true w h hsz hcut):T:=h
theorem zlr (h:T:=by show ∃ E,(Qr.parse s.data.toList).2=E;exact ⟨_,rfl⟩):T:=h
theorem zls (h:T:=by show ((c:Int) == 32)=(c == 32);rw[Bool.eq_iff_iff];simp;omega):T:=h
theorem zlt (h:T:=by show Hid (G (W5.drewN nq));exact Lib.hid (hG.below (Tx.drawn hb05 nq))):T:=h
theorem zlu (h:T:=by exact Lib.hid (ha oQ)):T:=h
theorem zlv (h:T:=by show ∃ c,Sr.cnt (Sr.ev (Sr.leafX (T.map (·.1)) r)) ks=c;exact ⟨_,rfl⟩):T:=h
theorem zlw (h:T:=by show k=ks.length;omega):T:=h
theorem zlx (h:T:=by show (32:UInt8)≠d;exact fun e=>hv ztd):T:=h
theorem zly (h:T:=by show Qr.Fr g wr w4;exact hF2.trans (.of_below hb4)):T:=h
theorem zlz (h:T:=by show ¬ (A:Int)<(l.length:Int);rw[List.length_nil]at hA;omega):T:=h
theorem zma (h:T:=by show Hid (decide (x=s)=t);exact Lib.hid (by rw[<- Qr.bne_ba];exact ht)):T:=h
theorem zmb (h:T:=by exact Lib.hid (fun w=>r21_is_c (Qr.lk r') hlegc 41 oZ w)):T:=h
theorem zmc (h:T:=by exact List.takeWhile_append_dropWhile (p:=fun c=>!sgn c) (l:=r)):T:=h
theorem zmd (h:T:=by exact Ix.pick_len (p:=Rc.tagIs [50,52,54]) (codes:=[97,98]) hM):T:=h
theorem zme (h:T:=by exact r20_known_c T a c r.id w' (hS.below hb).ps.fa oQ):T:=h
theorem zmf (h:T:=by show 48<=R;exact oQ):T:=h
theorem zmg (h:T:=by exact Qr.tail_eats (Qr.isOp_ne hi)):T:=h
theorem zmh (h:T:=by show Hid (Qr.pYears false r=none);exact Lib.hid (by rw[HN2.out];rfl)):T:=h
theorem zmi (h:T:=by show Below wr.heap.size wr wx;assumption):T:=h
theorem zmj (h:T:=by show decide (r.id∈L)=b;rw[<- hL];exact hb):T:=h
theorem zmk (h:T:=by exact @run_makeMap Tryz.prog):T:=h
theorem zml (h:T:=by exact Lib.hid hxs):T:=h
theorem zmm (h:T:=by show tt.length<=1000;omega):T:=h
theorem zmn (h:T:=by show w6.cell? ⟨w.heap.size+1,0,none⟩=some (.int .i64 0);exact ec6 0):T:=h
theorem zmo (h:T:=by exact Tx.newb w (.cells #[.int .i64 K,.string x,.bool g] 144)):T:=h
theorem zmp (h:T:=by exact Sr.cnt_take (p:=(Sr.ev (Sr.leafX (T.map (·.1)) r))) hx):T:=h
theorem zmq (h:T:=by show ∃ x,f.subs[j]?=some x;exact ⟨_,List.getElem?_eq_getElem hlt2⟩):T:=h
theorem zmr (h:T:=by show Below wr.heap.size wr W1;rw[<- hW1];exact Tx.newb _ _):T:=h
theorem zms (h:T:=by exact info_parts info_qy):T:=h
theorem zmt (h:T:=by show ∃ A,toks.length - r'.length=A;exact ⟨_,rfl⟩):T:=h
theorem zmu (h:T:=by show L=[];cases L with | nil=>rfl | cons x r=>simp at h0):T:=h
theorem zmv (h:T:=by show Below W.heap.size W U;rw[<- hU];exact hb.alloc hbs _):T:=h
theorem zmw (h:T:=by show ∃ n,y.at_[m]?=some n;exact ⟨_,List.getElem?_eq_getElem hlt2⟩):T:=h
theorem zmx (h:T:=by show ∃ L,Ix.prefix_ (T.map (·.1)) f y.data.toList=L;exact ⟨_,rfl⟩):T:=h
theorem zmy (h:T:=by show ((xs.length:Int) == 1)=false;exact beq_eq_false_iff_ne.2 hln):T:=h
theorem zmz (h:T:=by exact cell_later hb3 (cell_later hb1 d0')):T:=h
theorem zna (h:T:=by exact Qr.begins_ne hb):T:=h
theorem znb (h:T:=by show ∃ t,(x.toList == s.toList)=t;exact ⟨_,rfl⟩):T:=h
theorem znc (h:T:=by show A<toks.length;omega):T:=h
theorem znd (h:T:=by exact Tx.step hB hb):T:=h
theorem zne (h:T:=by exact hM.subs f hfm):T:=h
theorem znf (h:T:=by show ((l.length:Int) == 1)=false;exact beq_eq_false_iff_ne.2 hl1):T:=h
theorem zng (h:T:=by exact hP0.below hb1):T:=h
theorem znh (h:T:=by exact hPr.below hb2):T:=h
theorem zni (h:T:=by exact (hF9.block w.heap.size oQ hRl).trans HRR.out):T:=h
theorem znj (h:T:=by exact Qr.own_words2 (l:=tt) hown):T:=h
theorem znk (h:T:=by show Tryz.prog.cellsOf 3=1;kernel_rfl):T:=h
theorem znl (h:T:=by exact cell_later hb1 c2):T:=h
theorem znm (h:T:=by exact cell_later hb1 c4):T:=h
theorem znn (h:T:=by show M.length=L.length;rw[<- hMd,List.length_mergeSort]):T:=h
theorem zno (h:T:=by exact Lib.hid (Tx.blk_later KG3.out hb4)):T:=h
theorem znp (h:T:=by exact Lib.hid (Tx.blk_later KT3.out hb4)):T:=h
theorem znq (h:T:=by show Hid (Qr.nodes q<=2000);exact Lib.hid (by have:=hok.2;omega)):T:=h
theorem znr (h:T:=by exact fun w h=>hSub n r w (Nat.le_refl _) oQ hr h):T:=h
theorem zns (h:T:=by show ∃ L,Ix.word (T.map (·.1)) f y.data.toList=L;exact ⟨_,rfl⟩):T:=h
theorem znt (h:T:=by show ∃ F,Sr.key lang.data.toList s.data.toList=F;exact ⟨_,rfl⟩):T:=h
theorem znu (h:T:=by show ∃ k,m=k+1;exact ⟨m - 1,oQ⟩):T:=h
theorem znv (h:T:=by exact Tx.ent3 w (.int .i64 K) (.string x) (.bool tg) 144):T:=h
theorem znw (h:T:=by exact cell_later k3 T0.out):T:=h
theorem znx (h:T:=by exact cell_later k3 T1.out):T:=h
theorem zny (h:T:=by exact cell_later k3 T2.out):T:=h
theorem znz (h:T:=by exact cell_later k2 T0.out):T:=h
theorem zoa (h:T:=by exact cell_later k2 T1.out):T:=h
theorem zob (h:T:=by exact cell_later k2 T2.out):T:=h
theorem zoc (h:T:=by exact cell_later hB T0.out):T:=h
theorem zod (h:T:=by exact cell_later hB T1.out):T:=h
theorem zoe (h:T:=by exact cell_later hB T2.out):T:=h
theorem zof (h:T:=by exact cell_later k7 C0.out):T:=h
theorem zog (h:T:=by exact cell_later k7 C1.out):T:=h
theorem zoh (h:T:=by exact cell_later k7 C2.out):T:=h
theorem zoi (h:T:=by exact cell_later k8 C0.out):T:=h
theorem zoj (h:T:=by exact cell_later k8 C1.out):T:=h
theorem zok (h:T:=by exact cell_later k8 C2.out):T:=h
theorem zol (h:T:=by exact Rc.allV_take codes.data.toList hx):T:=h
theorem zom (h:T:=by exact Lib.hid hit):T:=h
theorem zon (h:T:=by exact Qr.tail_at hr (by rw[ht,hk];simp)):T:=h
theorem zoo (h:T:=by show ∃ t,(Sr.ev (Sr.leafX (T.map (·.1)) r)) x=t;exact ⟨_,rfl⟩):T:=h
theorem zop (h:T:=by show y.2.data.toList.length=y.2.size;rw[Lib.size_eq]):T:=h
theorem zoq (h:T:=by exact (hF4.trans (.of_below hb5)).trans (.of_below ew5)):T:=h
theorem zor (h:T:=by exact fun w h=>hSub k r1.tail w oQ oQ h):T:=h
theorem zos (h:T:=by exact Qr.run_at (s:=s) (k:=k) (n:=n) hn1 hn2 hin.out HO):T:=h
theorem zot (h:T:=by exact Tx.step k4 hb5):T:=h
theorem zou (h:T:=by show ∃ x,L[m]?=some x;exact ⟨_,List.getElem?_eq_getElem hml⟩):T:=h
theorem zov (h:T:=by show ¬ Ix.numB f=true;unfold Ix.numB;rw[b0,b1];simp):T:=h
theorem zow (h:T:=by exact Ix.pick_len (p:=Ix.begB 53) (codes:=[97]) HM.out):T:=h
theorem zox (h:T:=by exact List.eq_nil_of_length_eq_zero h0):T:=h
theorem zoy (h:T:=by show ∃ M,(L.mergeSort fun x y=>decide (x<=y))=M;exact ⟨_,rfl⟩):T:=h
theorem zoz (h:T:=by exact Tx.ent2 wr (.int .u8 x.1.toNat) (.string x.2) 96):T:=h
theorem zpa (h:T:=by show ∃ c,Sr.cmpB X.data.toList Y.data.toList=c;exact ⟨_,rfl⟩):T:=h
theorem zpb (h:T:=by exact fun w h=>hSub n r w (Nat.le_refl _) oQ h):T:=h
theorem zpc (h:T:=by show w.heap.size+2<=w1.heap.size;have:=HS1.out;omega):T:=h
theorem zpd (h:T:=by show g<w8.heap.size;have:=HGL.out;simp at s8;omega):T:=h
theorem zpe (h:T:=by show ((c:Int)=196\/(c:Int)=228)↔(c=196\/c=228);omega):T:=h
theorem zpf (h:T:=by show ((c:Int)=214\/(c:Int)=246)↔(c=214\/c=246);omega):T:=h
theorem zpg (h:T:=by exact IntWalk.i64_in ((A5:Int)+1) ⟨oQ,oQ⟩):T:=h
theorem zph (h:T:=by exact IntWalk.i64_in ((A1:Int)+1) ⟨oQ,oQ⟩):T:=h
theorem zpi (h:T:=by show ∃ K,Qr.kR (Qr.lk r').k=K;exact ⟨_,rfl⟩):T:=h
theorem zpj (h:T:=by exact List.getElem?_of_mem hx):T:=h
theorem zpk (h:T:=by exact Lib.hid (Lib.size_eq s)):T:=h
theorem zpl (h:T:=by exact Lib.hid (hM.size f hfm)):T:=h
theorem zpm (h:T:=by show ∃ O,Sr.order l R by_ lang.data.toList=O;exact ⟨_,rfl⟩):T:=h
theorem zpn (h:T:=by exact HS.out.get hf):T:=h
theorem zpo (h:T:=by exact Tx.c2 kg2):T:=h
theorem zpp (h:T:=by exact Lib.hid hh):T:=h
theorem zpq (h:T:=by show L.length<=1000;rw[<- hL];exact (hgf.all _).1):T:=h
theorem zpr (h:T:=by exact Lib.hid (HV.out f hfm)):T:=h
theorem zps (h:T:=by exact Tx.nr he w2):T:=h
theorem zpt (h:T:=by exact Lib.hid kg2):T:=h
theorem zpu (h:T:=by show ∃ x,(⟨(Qr.tx t).toArray⟩:ByteArray)=x;exact ⟨_,rfl⟩):T:=h
theorem zpv (h:T:=by show A2<=toks.length;omega):T:=h
theorem zpw (h:T:=by show ∃ L,lang.data.toList=L;exact ⟨_,rfl⟩):T:=h
theorem zpx (h:T:=by show Ix.numB f=true;unfold Ix.numB;rw[b0];simp):T:=h
theorem zpy (h:T:=by show Ix.numB f=true;unfold Ix.numB;rw[b1];simp):T:=h
theorem zpz (h:T:=by show (128+(r:Int) % 64).toNat=128+r % 64;omega):T:=h
theorem zqa (h:T:=by show OP=3;rw[<- HOP.out,if_neg (fun h=>h1 h.2)]):T:=h
theorem zqb (h:T:=by exact List.mem_map.1 hx):T:=h
theorem zqc (h:T:=by show ∃ c,s[k]'hlt=c;exact ⟨_,rfl⟩):T:=h
theorem zqd (h:T:=by show ∀ h,s[k]'h=c;exact fun _=>hc):T:=h
theorem zqe (h:T:=by exact List.mem_flatMap.1 hx):T:=h
theorem zqf (h:T:=by exact Sr.str_eq lang [103,101,114]):T:=h
theorem zqg (h:T:=by exact Sr.str_eq lang [115,119,101]):T:=h
theorem zqh (h:T:=by show 97<=R;exact oQ):T:=h
theorem zqi (h:T:=by show 57<R;exact oQ):T:=h
theorem zqj (h:T:=by show R<97;exact oQ):T:=h
theorem zqk (h:T:=by show kk≠0;rcases hk with rfl | rfl <;> decide):T:=h
theorem zql (h:T:=by show (N:Int)<=(s.size:Int);omega):T:=h
theorem zqm (h:T:=by show ¬ 0<ws.length;omega):T:=h
theorem zqn (h:T:=by exact Tx.c3 KT.out):T:=h
theorem zqo (h:T:=by show K=1;rw[<- hK,h2];rfl):T:=h
theorem zqp (h:T:=by exact Qr.tail_suf (Qr.tail_suf hr)):T:=h
theorem zqq (h:T:=by show W.heap.size=w.heap.size+3;rw[<- hW];simp):T:=h
theorem zqr (h:T:=by show ws≠[];intro h0;rw[h0]at hlt;simp at hlt):T:=h
theorem zqs (h:T:=by exact Option.map_eq_some_iff.1 hj):T:=h
theorem zqt (h:T:=by exact Sr.str_eq lang [115,112,97]):T:=h
theorem zqu (h:T:=by exact cell_later hb c5):T:=h
theorem zqv (h:T:=by exact Tx.own_later b6 hown):T:=h
theorem zqw (h:T:=by exact Qr.tokF_ok hl hv):T:=h
theorem zqx (h:T:=by exact Lib.hid (Tx.han ew3)):T:=h
theorem zqy (h:T:=by exact cell_later k4 T0.out):T:=h
theorem zqz (h:T:=by exact cell_later k4 T1.out):T:=h
theorem zra (h:T:=by exact cell_later k4 T2.out):T:=h
theorem zrb (h:T:=by exact cell_later k4 N0.out):T:=h
theorem zrc (h:T:=by exact cell_later k4 N1.out):T:=h
theorem zrd (h:T:=by exact cell_later k4 N2.out):T:=h
theorem zre (h:T:=by exact cell_later k3 N0.out):T:=h
theorem zrf (h:T:=by exact cell_later k3 N1.out):T:=h
theorem zrg (h:T:=by exact cell_later k3 N2.out):T:=h
theorem zrh (h:T:=by show tk≠0;rw[h2];decide):T:=h
theorem zri (h:T:=by exact Tx.c6 KR2.out):T:=h
theorem zrj (h:T:=by exact (tail_eats (isOp_ne ho)).2):T:=h
theorem zrk (h:T:=by exact Lib.hid hsv):T:=h
theorem zrl (h:T:=by exact px.below hB):T:=h
theorem zrm (h:T:=by exact Lib.hid kR3):T:=h
theorem zrn (h:T:=by exact Ix.IA.of_own ho rfl):T:=h
theorem zro (h:T:=by exact Tx.step hb1 hb2):T:=h
theorem zrp (h:T:=by exact Qr.take_snoc hx):T:=h
theorem zrq (h:T:=by show ∃ K,(Qr.lk r').g=K;exact ⟨_,rfl⟩):T:=h
theorem zrr (h:T:=by show 48<=c;omega):T:=h
theorem zrs (h:T:=by exact own_below hown hb2):T:=h
theorem zrt (h:T:=by exact Lib.hid hfin):T:=h
theorem zru (h:T:=by exact Tx.c1 KT.out):T:=h
theorem zrv (h:T:=by show ∃ d,s[N]'hlt2=d;exact ⟨_,rfl⟩):T:=h
theorem zrw (h:T:=by show ∃ n,Qr.lk1 r=n;exact ⟨_,rfl⟩):T:=h
theorem oQ (h:T:=by omega):T:=h
theorem oX (h:T:=by decide):T:=h
theorem oZ (h:T:=by simp):T:=h
theorem oJ (h:T:=by kernel_rfl):T:=h
theorem oW (h:T:=by simp;omega):T:=h
theorem oV (h:T:=by rfl):T:=h
theorem oK (h:T:=by unfold maxLen;omega):T:=h
theorem oY (h:T:=by first | rfl | simp):T:=h
theorem oG (h:T:=by simp[Value.oneCell']):T:=h
theorem oF (h:T:=by exact (fun h9=>by cases h9)):T:=h
theorem oD (h:T:=by exact (fun ad had=>by cases had;exact Br.cells_new_at _ _ (by first | rfl | simp) _ _)):T:=h
theorem oB (h:T:=by assumption):T:=h
theorem aQ (h:T:=by intro h;injection h with h;omega):T:=h
theorem aX (h:T:=by rw[List.length_drop];omega):T:=h
theorem aZ (h:T:=by simp;try omega):T:=h
theorem aJ (h:T:=by unfold maxLen;have:=HK.out;omega):T:=h
theorem aW (h:T:=by have:=HK.out;omega):T:=h
theorem aV (h:T:=by first | trivial | rfl):T:=h
theorem aK (h:T:=by rw[<- Lib.size_eq];omega):T:=h
theorem aY (h:T:=by rw[<- Lib.size_eq];exact hl):T:=h
theorem aG (h:T:=by simp[results,Tryz.results291,go_sem,z0,z1,z2,z3,z4,z5,z6,z7]):T:=h
theorem aF (h:T:=by simp[results,Tryz.results305,go_sem,z0,z1,z2,z3,z4,z5,z6,z7]):T:=h
theorem aD (h:T:=by rw[List.drop_zero];rfl):T:=h
theorem aB (h:T:=by unfold Sr.In64;omega):T:=h
theorem eQ (h:T:=by have:=hb.size;have:=hb1.size;omega):T:=h
theorem eX (h:T:=by simp[World.setCell]):T:=h
theorem eZ (h:T:=by exact (fun t ht=>by cases ht)):T:=h
theorem eJ (h:T:=by simpa using h):T:=h
theorem eW (h:T:=by simp[hw]):T:=h
theorem eV (h:T:=by simp[results,Tryz.results56,go_sem,z0,z1,z2,z3,z4,z5]):T:=h
theorem eK (h:T:=by rw[List.length_map];omega):T:=h
theorem eY (h:T:=by rw[List.take_zero];rfl):T:=h
theorem eG (h:T:=by rw[HNN.out];exact hn):T:=h
theorem eF (h:T:=by rw[<- HL.out];omega):T:=h
theorem eD (h:T:=by exact (fun a h=>by cases h)):T:=h
theorem eB (h:T:=by rw[HF.out];rfl):T:=h
theorem iQ (h:T:=by rw[e];rfl):T:=h
theorem iX (h:T:=by exact (fun j hj=>by injection hj with hj;omega)):T:=h
theorem iZ (h:T:=by rw[<- hW];exact heap_alloc_new w _):T:=h
theorem iJ (h:T:=by rw[<- Lib.size_eq];exact hlt):T:=h
theorem iW (h:T:=by rw[<- Lib.size_eq];exact h):T:=h
theorem iV (h:T:=by rw[Tx.size_mk];omega):T:=h
theorem iK (h:T:=by have:=hR.len;omega):T:=h
theorem iY (h:T:=by have:=hX.len;omega):T:=h
theorem iG (h:T:=by rw[List.drop_zero]):T:=h
theorem iF (h:T:=by rw[HA.out];rfl):T:=h
theorem iD (h:T:=by simpa using hi):T:=h
theorem iB (h:T:=by simpa using hq):T:=h
theorem uQ (h:T:=by simpa using hz):T:=h
theorem uX (h:T:=by simp[nms]):T:=h
theorem uZ (h:T:=by simp[h1]):T:=h
theorem uJ (h:T:=by simp[hv]):T:=h
theorem uW (h:T:=by simp[hy]):T:=h
theorem uV (h:T:=by rw[e0]):T:=h
theorem uK (h:T:=by first | exact (Tx.newb _ _).drew | exact ((Tx.newb _ _).alloc (by simp) _).drew):T:=h
theorem uY (h:T:=by rw[List.getD_eq_getElem?_getD,List.getElem?_eq_getElem hj];rfl):T:=h
theorem uG (h:T:=by simp[results,Tryz.results265,go_sem,z0,z1,z2,z3,z4,z5,z6,z7]):T:=h
theorem uF (h:T:=by simp[results,Tryz.results306,go_sem,z0,z1,z2,z3,z4,z5,z6,z7]):T:=h
theorem uD (h:T:=by rw[List.length_drop,<- Lib.size_eq];omega):T:=h
theorem uB (h:T:=by rw[List.length_map];exact Nat.le_refl _):T:=h
theorem yQ (h:T:=by exact (fun k h=>by injection h with h;omega)):T:=h
theorem yX (h:T:=by rw[List.drop_zero];exact HF.out):T:=h
theorem yZ (h:T:=by rw[List.drop_zero];exact HV.out):T:=h
theorem yJ (h:T:=by rw[List.getElem?_map,hx];rfl):T:=h
theorem yW (h:T:=by have:=hb1.size;simp;omega):T:=h
theorem yV (h:T:=by rw[Bool.true_and];exact h):T:=h
theorem yK (h:T:=by have:=hb.size;simp;omega):T:=h
theorem yY (h:T:=by rw[HTA.out,HA.out];omega):T:=h
theorem yG (h:T:=by have:=HS1.out;omega):T:=h
theorem yF (h:T:=by rw[ha0.out];simp):T:=h
theorem yD (h:T:=by rw[ht];exact h40):T:=h
theorem yB (h:T:=by rw[hL];exact h0):T:=h
theorem qQ (h:T:=by decide +kernel):T:=h
theorem qX (h:T:=by simpa using hk):T:=h
theorem qZ (h:T:=by simpa using hw):T:=h
theorem qJ (h:T:=by exact (fun h=>by cases h)):T:=h
theorem qW (h:T:=by rw[e1];decide):T:=h
theorem qV (h:T:=by rw[hP];decide):T:=h
theorem qK (h:T:=by rw[h3];simp):T:=h
theorem qY (h:T:=by exact (fun ad had=>by cases had;exact Br.cells_new_at _ _ (by first | rfl | simp) #[.int .i64 y.1.fld,.string ⟨y.1.word.toArray⟩,.int .i64 y.1.id,.slice y.2.1 y.1.at_.length y.2.2] _)):T:=h
theorem qG (h:T:=by exact (fun b hb9=>by rw[<- hb9];exact HCQ.out W1 f.tag (Tx.step hB (Tx.step hb hb1)))):T:=h
theorem qF (h:T:=by simp[results,Tryz.results54,go_sem,x0,x1,x2,x3,x4,x5,y0]):T:=h
theorem qD (h:T:=by simp[results,Tryz.results287,go_sem,z0,z1,z2,z3,z4,z5]):T:=h
theorem qB (h:T:=by first | rfl | (simp;done) | (simp;omega)):T:=h
theorem OQ (h:T:=by rw[<- HT2.out,hP,List.append_assoc];rfl):T:=h
theorem OX (h:T:=by rw[<- HXS.out];exact Qr.wordsB_bys hws):T:=h
theorem OZ (h:T:=by rw[List.length_drop,<- HLS.out];omega):T:=h
theorem OJ (h:T:=by simp[results,Tryz.results74,go_sem,kc]):T:=h
theorem OW (h:T:=by exact (fun j hj=>by have:=(hown.lt j hj).1;omega)):T:=h
theorem OV (h:T:=by intro h;injection h with _ h;omega):T:=h
theorem OK (h:T:=by exact (fun j hj=>by have:=HOW.out j hj;omega)):T:=h
theorem OY (h:T:=by simp;have:=HBL.out.size;omega):T:=h
theorem OG (h:T:=by rw[List.getElem?_map,hy];rfl):T:=h
theorem OF (h:T:=by rw[World.size_alloc];omega):T:=h
theorem OD (h:T:=by exact (fun e9=>by injection e9;omega)):T:=h
theorem OB (h:T:=by rw[HQP.out,hq];decide):T:=h
theorem UQ (h:T:=by rw[bc_len];exact hlen):T:=h
theorem UX (h:T:=by exact (fun x hx=>by simp at hx)):T:=h
theorem UZ (h:T:=by have:=HND.out;omega):T:=h
theorem UJ (h:T:=by rw[HY.out,HN.out]):T:=h
theorem UW (h:T:=by rw[h.1];exact hj):T:=h
theorem UV (h:T:=by simpa using hown):T:=h
theorem UK (h:T:=by rw[HQ.out];rfl):T:=h
theorem UY (h:T:=by rw[HQP.out,hq]):T:=h
theorem UG (h:T:=by simpa using h1):T:=h
theorem UF (h:T:=by simpa using hj):T:=h
theorem UD (h:T:=by exact (fun ad had=>by cases had;exact Br.cells_new_at _ _ (by first | rfl | simp) #[.int .i64 t.1.fld,.string ⟨t.1.word.toArray⟩,.int .i64 t.1.id,.slice t.2.1 t.1.at_.length t.2.2] _)):T:=h
theorem UB (h:T:=by rw[HXJ.out];exact Qr.RRes.mk_some (by rw[HA1.out]) ((hqJ.kp ((Qr.Kp.refl _ _).put8 (by omega) _ _ _ _ _ _ _ _)).mono (by omega)) (Qr.put8 kJ (Nat.le_refl _) _ _ _ _ _ _ _ _)):T:=h
theorem YQ (h:T:=by first | exact hcap.below hb' | exact (hcap.below (Tx.newb _ _)).below hb' | exact (hcap.below ((Tx.newb _ _).drew)).below hb'):T:=h
theorem YX (h:T:=by exact (fun _ ad l2 c2 e9=>by injection e9 with e9;injection e9 with e9;rw[<- e9];have:=hA';simp[World.setCell]at this;simp only;omega)):T:=h
theorem YZ (h:T:=by rw[HN.out];exact Qr.RRes.mk_none (Qr.put8 (hB.trans ((Tx.step hb2 hb3).mono hB.size)) (Nat.le_refl _) _ _ _ _ _ _ _ _)):T:=h
theorem YJ (h:T:=by rw[HXN.out];exact Qr.RRes.mk_none (Qr.put8 hb (Nat.le_refl _) _ _ _ _ _ _ _ _)):T:=h
theorem YW (h:T:=by unfold Sr.In64;show -9223372036854775808<=o/\o<=9223372036854775807;omega):T:=h
theorem YK (h:T:=by first | exact hel | exact Br.cells_new_at _ _ (by first | rfl | simp) _ _):T:=h
theorem YY (h:T:=by unfold Ix.OwnI;rw[HTK.out,List.length_append,List.map_append];exact hown8):T:=h
theorem YG (h:T:=by rw[HE.out,if_pos (Qr.any_hit HX.out (by simpa using HO.out))]):T:=h
theorem YF (h:T:=by simp[results,Tryz.results124,go_sem,z0,z1,z2,z3,z4,z5,z6,z7]):T:=h
theorem YD (h:T:=by simp[results,Tryz.results205,go_sem,z0,z1,z2,z3,z4,z5,z6,z7]):T:=h
theorem QQ (h:T:=by rcases h1 with h1 | h1 | h1 | h1 <;> rw[h1] <;> decide):T:=h
theorem QX (h:T:=by rcases hc with h1 | h1 | h1 | h1 <;> rw[h1] <;> decide):T:=h
theorem QZ (h:T:=by rw[Br.flat_len Rc.encR 5 Rc.encR_len,List.length_drop]):T:=h
theorem QJ (h:T:=by rw[HX.out,HF.out];simp only;rw[Qr.pTerm_f,HT.out];rfl):T:=h
theorem QW (h:T:=by rw[<- hs x];exact (List.getElem?_eq_some_iff.1 hu).1):T:=h
theorem QV (h:T:=by first | exact hb1.size | (have:=hb1.size;simp;omega)):T:=h
theorem QK (h:T:=by rw[<- vals_id by_ lang x,<- vals_id by_ lang y,e]):T:=h
theorem QY (h:T:=by exact (fun h9=>by rw[List.drop_of_length_le (by omega)];simp)):T:=h
theorem QG (h:T:=by rw[List.getElem?_set_ne (by omega)];exact HXP.out):T:=h
theorem QF (h:T:=by rw[Tx.size_mk];exact Nat.le_trans hpl (by omega)):T:=h
theorem QD (h:T:=by rw[<- hLX.out,Qr.lAnd,if_neg ho,if_pos hg,hsub]):T:=h
theorem QB (h:T:=by exact (fun b hb9 e9=>by have:=(HVL.out b e9.symm).2;omega)):T:=h
theorem zrx (h:T:=by first | exact hb1 | exact hb1.alloc hb1.size _):T:=h
theorem zry (h:T:=by rw[HT2];first | go_num | (unfold wrap64;omega)):T:=h
theorem zrz (h:T:=by rw[List.length_append];simp;have:=HK.out;omega):T:=h
theorem zsa (h:T:=by rw[Br.flat_len Qr.encQ 6 Qr.encQ_len,HL2.out]):T:=h
theorem zsb (h:T:=by simp[results,Tryz.results252,go_sem,c0,c1,c2]):T:=h
theorem zsc (h:T:=by rw[show (40:UInt8).toNat=40 from rfl];omega):T:=h
theorem zsd (h:T:=by have:=hA';simp[World.setCell]at this;omega):T:=h
theorem zse (h:T:=by exact (fun h9=>by rw[<- HL2.out];exact hFA.none h9)):T:=h
theorem zsf (h:T:=by rw[List.getElem?_eq_none_iff]at hk;omega):T:=h
theorem zsg (h:T:=by first | exact own1 | exact own1.alloc _):T:=h
theorem zsh (h:T:=by rw[<- Lib.size_eq];exact Nat.le_refl _):T:=h
theorem zsi (h:T:=by rw[List.length_take,<- HLS.out];omega):T:=h
theorem zsj (h:T:=by rw[<- hLX.out,Qr.lAnd,if_pos ho,hsub]):T:=h
theorem zsk (h:T:=by simp[results,Tryz.results98,go_sem,hc]):T:=h
theorem zsl (h:T:=by unfold Qr.isWord;rw[HV.out,HT.out];rfl):T:=h
theorem zsm (h:T:=by unfold Tx.wStep Tx.sepW;rw[HB.out];rfl):T:=h
theorem zsn (h:T:=by rintro⟨e,_⟩;rw[e]at g2;simp at g2):T:=h
theorem zso (h:T:=by rw[<- HYS.out,List.length_map];omega):T:=h
theorem zsp (h:T:=by rw[<- hLX.out,Qr.lOr,if_pos ho,hsub]):T:=h
theorem zsq (h:T:=by rw[Lib.size_eq,<- hPd];exact hRx.al):T:=h
theorem zsr (h:T:=by rw[Lib.size_eq,<- hQd];exact hRy.al):T:=h
theorem zss (h:T:=by rw[hwm];exact (hw.below hB).below h9):T:=h
theorem zst (h:T:=by simp[results,Tryz.results123,go_sem]):T:=h
theorem zsu (h:T:=by rw[Br.size_set];exact Nat.le_refl _):T:=h
theorem zsv (h:T:=by show 2<=maxLen;unfold maxLen;omega):T:=h
theorem zsw (h:T:=by first | (simp;done) | (simp;omega)):T:=h
theorem zsx (h:T:=by simpa using ‹¬ word0 r=false›):T:=h
theorem zsy (h:T:=by rw[hde];rintro⟨_,h9⟩;cases h9):T:=h
theorem zsz (h:T:=by unfold maxLen;have:=HK2.out;omega):T:=h
theorem zta (h:T:=by unfold maxLen;have:=HKL.out;omega):T:=h
theorem ztb (h:T:=by unfold maxLen;have:=HPL.out;omega):T:=h
theorem ztc (h:T:=by rw[decide_eq_false HD.out];rfl):T:=h
theorem ztd (h:T:=by rw[e];exact List.mem_cons_self):T:=h
theorem zte (h:T:=by simp[Act.eval,Array.replicate]):T:=h
theorem ztf (h:T:=by simpa [World.setCell] using s5):T:=h
theorem ztg (h:T:=by unfold Ix.gF;simp only[hg];rfl):T:=h
end
end Go.Proofs.YtlakomilichhnaaGreatDoor
